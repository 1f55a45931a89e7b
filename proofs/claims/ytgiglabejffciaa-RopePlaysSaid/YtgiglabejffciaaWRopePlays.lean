/- The typed conditions of the functions, printed by a program of the claim's author; each gives the contract of its function. Conditions: none. -/
import Derived.Test.YtgiglabejffciaaGRopePlays
import Derived.Test.YtgiglabejffciaaVpA
import Derived.Test.YtgiglabejffciaaVpB
import Derived.Test.YtgiglabejffciaaVpC
import Derived.Test.YtgiglabejffciaaVpD
import Derived.Test.YtgiglabejffciaaVpE
import Derived.Test.YtgiglabejffciaaVpG
import Derived.Test.YtgiglabejffciaaVpO
import Derived.Test.YtgiglabejffciaaVpRP
import Derived.Test.YtgiglabejffciaaVpRQ
import Derived.Test.YtgiglabejffciaaVpSC
import Derived.Test.YtgiglabejffciaaVpRT
import Derived.Test.YtgiglabejffciaaP5
import Derived.Test.YtgiglabejffciaaR4
import Derived.Test.YtgiglabejffciaaBase
set_option linter.unusedVariables false
set_option linter.unusedSimpArgs false
set_option maxRecDepth 100000
namespace Go.Proofs.Ytgiglabejffciaa
open Go.Vc Go.Fu

theorem pos_Of_vc (hC : Cons Try.prog [])
 (H : ∀ (text : List UInt8), (fitS text) →
 ((↑(1 : Nat) : Int) = (0 : Int) → False) ∧
 (¬(↑(1 : Nat) : Int) = (0 : Int) →
 ((↑(1 : Nat) : Int) = (1 : Int) →
 (0 : Int) ≤ (0 : Int) ∧
 (0 : Int) < (↑(1 : Nat) : Int) ∧
 inI64 ((↑text.length : Int) - (1 : Int)) ∧
 ∃ (I : Int → Prop),
 ∃ (m : Int → Nat),
 ((0 : Int) = (0 : Int) ∧
 (0 : Int) = (0 : Int) ∧ (0 : Int) = (0 : Int) ∧ I ((↑text.length : Int) - (1 : Int))) ∧
 ∀ (i : Int),
 I i →
 ((0 : Int) ≤ i →
 (0 : Int) ≤ i ∧
 i < (↑text.length : Int) ∧
 ((↑(gt text i).toNat : Int) = (10 : Int) →
 inI64 ((↑text.length : Int) - i) ∧
 inI64 ((↑text.length : Int) - i - (1 : Int)) ∧
 ((↑text.length : Int),
 (↑(Lib.countByte text (gt [(10 : UInt8)] (0 : Int))) : Int),
 (↑text.length : Int) - i - (1 : Int)) =
 posOf text) ∧
 (¬(↑(gt text i).toNat : Int) = (10 : Int) →
 inI64 (i - (1 : Int)) ∧
 (0 : Int) = (0 : Int) ∧
 (0 : Int) = (0 : Int) ∧
 (0 : Int) = (0 : Int) ∧ I (i - (1 : Int)) ∧ m (i - (1 : Int)) < m i)) ∧
 (¬(0 : Int) ≤ i →
 inI64 ((↑text.length : Int) - (-1 : Int)) ∧
 inI64 ((↑text.length : Int) - (-1 : Int) - (1 : Int)) ∧
 ((↑text.length : Int), (↑(Lib.countByte text (gt [(10 : UInt8)] (0 : Int))) : Int),
 (↑text.length : Int) - (-1 : Int) - (1 : Int)) =
 posOf text)) ∧
 (¬(↑(1 : Nat) : Int) = (1 : Int) →
 ∃ (I : List UInt8 → Int → Prop),
 ∃ (m : List UInt8 → Int → Nat),
 ((0 : Int) = (0 : Int) ∧ (0 : Int) = (0 : Int) ∧ (0 : Int) = (0 : Int) ∧ I text (0 : Int)) ∧
 ∀ (s : List UInt8) (n : Int), I s n → False))) :
 Con Try.prog f_pos_Of pos_Of_ct := ⟨pos_Of_ok.able rfl, fun x hx =>
 con_eq hC (L := [(f_strings_Count, strings_Count_fi), (f_strings_LastIndexByte, strings_LastIndexByte_fi), (f_internal_bytealg_LastIndexByteString, internal_bytealg_LastIndexByteString_fi)]) (⟨strings_Count_ok, strings_LastIndexByte_ok, internal_bytealg_LastIndexByteString_ok, trivial⟩) pos_Of_ok (ct := pos_Of_ct) (depth := 4) rfl (by kernel_rfl) x (H (@id (List UInt8) x) (mpr' hx (by kernel_rfl))) (by kernel_rfl)⟩

theorem poly_Of_vc (hC : Cons Try.prog [])
 (H : ∀ (text : List UInt8), (fitS text) →
 ∃ (I : Int → Int → Int → Prop),
 ∃ (m : Int → Int → Int → Nat),
 ((0 : Int) = (0 : Int) ∧ (0 : Int) = (0 : Int) ∧ I (0 : Int) (0 : Int) (1 : Int)) ∧
 ∀ (x h h_1 : Int),
 I x h h_1 →
 (x < (↑text.length : Int) →
 inI64 (h * (257 : Int)) ∧
 (0 : Int) ≤ x ∧
 x < (↑text.length : Int) ∧
 inI64 (h * (257 : Int) + (↑(gt text x).toNat : Int)) ∧
 inI64 (h * (257 : Int) + (↑(gt text x).toNat : Int) + (1 : Int)) ∧
 (2147483647 : Int) ≠ (0 : Int) ∧
 inI64 (h_1 * (257 : Int)) ∧
 (2147483647 : Int) ≠ (0 : Int) ∧
 inI64 (x + (1 : Int)) ∧
 (0 : Int) = (0 : Int) ∧
 (0 : Int) = (0 : Int) ∧
 I (x + (1 : Int))
 ((h * (257 : Int) + (↑(gt text x).toNat : Int) + (1 : Int)).tmod
 (2147483647 : Int))
 ((h_1 * (257 : Int)).tmod (2147483647 : Int)) ∧
 m (x + (1 : Int))
 ((h * (257 : Int) + (↑(gt text x).toNat : Int) + (1 : Int)).tmod
 (2147483647 : Int))
 ((h_1 * (257 : Int)).tmod (2147483647 : Int)) <
 m x h h_1) ∧
 (¬x < (↑text.length : Int) → (h, h_1) = polyOf text)) :
 Con Try.prog f_poly_Of poly_Of_ct := ⟨poly_Of_ok.able rfl, fun x hx =>
 con_eq hC (L := []) (trivial) poly_Of_ok (ct := poly_Of_ct) (depth := 0) rfl (by kernel_rfl) x (H (@id (List UInt8) x) (mpr' hx (by kernel_rfl))) (by kernel_rfl)⟩

theorem pos_May_vc (hC : Cons Try.prog [])
 (H : ∀ (p : Int × Int × Int), (True) →
 (((p.fst < 0 ∨ p.snd.fst < 0) ∨ p.snd.snd < 0) ∨ 1099511627776 < max (max p.fst p.snd.fst) p.snd.snd →
 false = bo (posOk p)) ∧
 (¬(((p.fst < 0 ∨ p.snd.fst < 0) ∨ p.snd.snd < 0) ∨ 1099511627776 < max (max p.fst p.snd.fst) p.snd.snd) →
 inI64 (p.snd.fst + p.snd.snd) ∧
 bo (p.snd.fst + p.snd.snd ≤ p.fst ∧ (0 < p.snd.fst ∨ p.snd.snd = p.fst)) = bo (posOk p))) :
 Con Try.prog f_pos_May pos_May_ct := ⟨pos_May_ok.able rfl, fun x hx =>
 con_eq hC (L := []) (trivial) pos_May_ok (ct := pos_May_ct) (depth := 0) rfl (by kernel_rfl) x (H (@id ((Int × Int × Int)) x) (mpr' hx (by kernel_rfl))) (by kernel_rfl)⟩

theorem pos_Join_vc (hC : Cons Try.prog [(f_pos_May, pos_May_ct)])
 (H : ∀ (a : Int × Int × Int) (b : Int × Int × Int), (True) →
 True ∧
 (¬¬bo (posOk (a.fst, a.snd.fst, a.snd.snd)) = true → True) ∧
 (¬bo (posOk (a.fst, a.snd.fst, a.snd.snd)) = true ∨ ¬bo (posOk (b.fst, b.snd.fst, b.snd.snd)) = true →
 (0, 0, 0) = (posJoin a b).fst ∧ 4 = (posJoin a b).snd) ∧
 (¬(¬bo (posOk (a.fst, a.snd.fst, a.snd.snd)) = true ∨ ¬bo (posOk (b.fst, b.snd.fst, b.snd.snd)) = true) →
 inI64 (a.fst + b.fst) ∧
 inI64 (a.snd.fst + b.snd.fst) ∧
 (b.snd.fst = 0 →
 inI64 (b.snd.snd + a.snd.snd) ∧
 True ∧
 (¬bo (posOk (a.fst + b.fst, a.snd.fst + b.snd.fst, b.snd.snd + a.snd.snd)) = true →
 (0, 0, 0) = (posJoin a b).fst ∧ 4 = (posJoin a b).snd) ∧
 (¬¬bo (posOk (a.fst + b.fst, a.snd.fst + b.snd.fst, b.snd.snd + a.snd.snd)) = true →
 (a.fst + b.fst, a.snd.fst + b.snd.fst, b.snd.snd + a.snd.snd) = (posJoin a b).fst ∧
 0 = (posJoin a b).snd)) ∧
 (¬b.snd.fst = 0 →
 True ∧
 (¬bo (posOk (a.fst + b.fst, a.snd.fst + b.snd.fst, b.snd.snd)) = true →
 (0, 0, 0) = (posJoin a b).fst ∧ 4 = (posJoin a b).snd) ∧
 (¬¬bo (posOk (a.fst + b.fst, a.snd.fst + b.snd.fst, b.snd.snd)) = true →
 (a.fst + b.fst, a.snd.fst + b.snd.fst, b.snd.snd) = (posJoin a b).fst ∧ 0 = (posJoin a b).snd)))) :
 Con Try.prog f_pos_Join pos_Join_ct := ⟨pos_Join_ok.able rfl, fun x hx =>
 con_eq hC (L := []) (trivial) pos_Join_ok (ct := pos_Join_ct) (depth := 0) rfl (by kernel_rfl) x (H (@id ((Int × Int × Int) × (Int × Int × Int)) x).1 (@id ((Int × Int × Int) × (Int × Int × Int)) x).2 (mpr' hx (by kernel_rfl))) (by kernel_rfl)⟩

theorem poly_May_vc (hC : Cons Try.prog [])
 (H : ∀ (h : Int × Int), (True) →
 bo (((0 ≤ h.fst ∧ h.fst < 2147483647) ∧ 0 < h.snd) ∧ h.snd < 2147483647) = bo (polyOk h)) :
 Con Try.prog f_poly_May poly_May_ct := ⟨poly_May_ok.able rfl, fun x hx =>
 con_eq hC (L := []) (trivial) poly_May_ok (ct := poly_May_ct) (depth := 0) rfl (by kernel_rfl) x (H (@id ((Int × Int)) x) (mpr' hx (by kernel_rfl))) (by kernel_rfl)⟩

theorem poly_Join_vc (hC : Cons Try.prog [(f_poly_May, poly_May_ct)])
 (H : ∀ (a : Int × Int) (b : Int × Int), (True) →
 True ∧
 (¬¬bo (polyOk (a.fst, a.snd)) = true → True) ∧
 (¬bo (polyOk (a.fst, a.snd)) = true ∨ ¬bo (polyOk (b.fst, b.snd)) = true →
 ((0 : Int), (0 : Int)) = (polyJoin a b).fst ∧ (4 : Int) = (polyJoin a b).snd) ∧
 (¬(¬bo (polyOk (a.fst, a.snd)) = true ∨ ¬bo (polyOk (b.fst, b.snd)) = true) →
 inI64 (a.fst * b.snd) ∧
 inI64 (a.fst * b.snd + b.fst) ∧
 (2147483647 : Int) ≠ (0 : Int) ∧
 inI64 (a.snd * b.snd) ∧
 (2147483647 : Int) ≠ (0 : Int) ∧
 ((a.fst * b.snd + b.fst).tmod (2147483647 : Int), (a.snd * b.snd).tmod (2147483647 : Int)) =
 (polyJoin a b).fst ∧
 (0 : Int) = (polyJoin a b).snd)) :
 Con Try.prog f_poly_Join poly_Join_ct := ⟨poly_Join_ok.able rfl, fun x hx =>
 con_eq hC (L := []) (trivial) poly_Join_ok (ct := poly_Join_ct) (depth := 0) rfl (by kernel_rfl) x (H (@id ((Int × Int) × (Int × Int)) x).1 (@id ((Int × Int) × (Int × Int)) x).2 (mpr' hx (by kernel_rfl))) (by kernel_rfl)⟩

theorem law_sameTexts_vc (hC : Cons Try.prog [])
 (H : ∀ (a : List (List UInt8)) (b : List (List UInt8)), (fitL a ∧ fitL b) →
 ((↑a.length : Int) ≠ (↑b.length : Int) → false = bo (a = b)) ∧
 (¬(↑a.length : Int) ≠ (↑b.length : Int) →
 ∃ (I : Int → Prop),
 ∃ (m : Int → Nat),
 I 0 ∧
 ∀ (i : Int),
 I i →
 (i < (↑a.length : Int) →
 0 ≤ i ∧
 i < (↑a.length : Int) ∧
 0 ≤ i ∧
 i < (↑b.length : Int) ∧
 (gt a i ≠ gt b i → false = bo (a = b)) ∧
 (¬gt a i ≠ gt b i → inI64 (i + 1) ∧ I (i + 1) ∧ m (i + 1) < m i)) ∧
 (¬i < (↑a.length : Int) → true = bo (a = b)))) :
 Con Try.prog f_law_sameTexts law_sameTexts_ct := ⟨law_sameTexts_ok.able rfl, fun x hx =>
 con_eq hC (L := []) (trivial) law_sameTexts_ok (ct := law_sameTexts_ct) (depth := 0) rfl (by kernel_rfl) x (H (@id (List (List UInt8) × List (List UInt8)) x).1 (@id (List (List UInt8) × List (List UInt8)) x).2 (mpr' hx (by kernel_rfl))) (by kernel_rfl)⟩

theorem law_sameCodes_vc (hC : Cons Try.prog [])
 (H : ∀ (a : List Int) (b : List Int), (fitL a ∧ fitL b) →
 ((↑a.length : Int) ≠ (↑b.length : Int) → false = bo (a = b)) ∧
 (¬(↑a.length : Int) ≠ (↑b.length : Int) →
 ∃ (I : Int → Prop),
 ∃ (m : Int → Nat),
 I 0 ∧
 ∀ (i : Int),
 I i →
 (i < (↑a.length : Int) →
 0 ≤ i ∧
 i < (↑a.length : Int) ∧
 0 ≤ i ∧
 i < (↑b.length : Int) ∧
 (gt a i ≠ gt b i → false = bo (a = b)) ∧
 (¬gt a i ≠ gt b i → inI64 (i + 1) ∧ I (i + 1) ∧ m (i + 1) < m i)) ∧
 (¬i < (↑a.length : Int) → true = bo (a = b)))) :
 Con Try.prog f_law_sameCodes law_sameCodes_ct := ⟨law_sameCodes_ok.able rfl, fun x hx =>
 con_eq hC (L := []) (trivial) law_sameCodes_ok (ct := law_sameCodes_ct) (depth := 0) rfl (by kernel_rfl) x (H (@id (List Int × List Int) x).1 (@id (List Int × List Int) x).2 (mpr' hx (by kernel_rfl))) (by kernel_rfl)⟩

theorem law_RopePlays_vc (hC : Cons Try.prog [(f_rope_Play, rope_Play_ct), (f_ref_RopePlayed, ref_RopePlayed_ct), (f_law_sameTexts, law_sameTexts_ct), (f_law_sameCodes, law_sameCodes_ct)])
 (H : ∀ (l : List (Int × List UInt8 × Int × Int × Int × Int)), (l.length ≤ 140737488351232 ∧
 ∀ (x : Int × List UInt8 × Int × Int × Int × Int),
 List.Mem x l →
 (IntKind.i64.min ≤ x.1 ∧ x.1 ≤ IntKind.i64.max) ∧
 x.2.1.length.le 140737488351232 ∧
 (IntKind.i64.min ≤ x.2.2.1 ∧ x.2.2.1 ≤ IntKind.i64.max) ∧
 (IntKind.i64.min ≤ x.2.2.2.1 ∧ x.2.2.2.1 ≤ IntKind.i64.max) ∧
 (IntKind.i64.min ≤ x.2.2.2.2.1 ∧ x.2.2.2.2.1 ≤ IntKind.i64.max) ∧
 IntKind.i64.min ≤ x.2.2.2.2.2 ∧ x.2.2.2.2.2 ≤ IntKind.i64.max) →
 opsFit l ∧
 opsFit l ∧
 (fitL (ropeTexts l).fst ∧ fitL (ropeTexts l).fst) ∧
 (bo ((ropeTexts l).fst = (ropeTexts l).fst) = true → fitL (ropeTexts l).snd.fst ∧ fitL (ropeTexts l).snd.fst) ∧
 bo
 ((bo ((ropeTexts l).fst = (ropeTexts l).fst) = true ∧
 bo ((ropeTexts l).snd.fst = (ropeTexts l).snd.fst) = true) ∧
 (ropeTexts l).snd.snd = (ropeTexts l).snd.snd) =
 true) :
 Con Try.prog f_law_RopePlays law_RopePlays_ct := ⟨law_RopePlays_ok.able rfl, fun x hx =>
 con_eq hC (L := []) (trivial) law_RopePlays_ok (ct := law_RopePlays_ct) (depth := 0) rfl (by kernel_rfl) x (H (@id ((List (Int × List UInt8 × Int × Int × Int × Int))) x) (mpr' hx (by kernel_rfl))) (by kernel_rfl)⟩

end Go.Proofs.Ytgiglabejffciaa
