/- The typed conditions of the functions, printed by a program of the claim's author; each gives the contract of its function. Conditions: none. -/
import Derived.Test.YtakkifkpihdcnaaDoorGPolyLineses
import Derived.Test.YtakkifkpihdcnaaDoorVpA
import Derived.Test.YtakkifkpihdcnaaDoorVpB
import Derived.Test.YtakkifkpihdcnaaDoorVpC
import Derived.Test.YtakkifkpihdcnaaDoorVpD
import Derived.Test.YtakkifkpihdcnaaDoorVpE
import Derived.Test.YtakkifkpihdcnaaDoorVpG
import Derived.Test.YtakkifkpihdcnaaDoorVpLN
import Derived.Test.YtakkifkpihdcnaaDoorP2
import Derived.Test.YtakkifkpihdcnaaDoorBase
set_option linter.unusedVariables false
set_option linter.unusedSimpArgs false
set_option maxRecDepth 100000
namespace Go.Proofs.YtakkifkpihdcnaaDoor
open Go.Vc Go.Fu

theorem poly_Of_vc (hC : Cons Tryd.prog [])
 (H : ∀ (text : List UInt8), (fitS text) →
 ∃ (I : Int → Int → Int → Prop),
 ∃ (m : Int → Int → Int → Nat),
 ((0 : Int) = (0 : Int) ∧ (0 : Int) = (0 : Int) ∧ I (0 : Int) (0 : Int) (1 : Int)) ∧
 ∀ (x h h_1 : Int),
 I x h h_1 →
 (x < (↑text.length : Int) →
 inI64 (h * (257 : Int)) ∧
 (0 : Int) ≤ x ∧
 x < (↑text.length : Int) ∧
 inI64 (h * (257 : Int) + (↑(gt text x).toNat : Int)) ∧
 inI64 (h * (257 : Int) + (↑(gt text x).toNat : Int) + (1 : Int)) ∧
 (2147483647 : Int) ≠ (0 : Int) ∧
 inI64 (h_1 * (257 : Int)) ∧
 (2147483647 : Int) ≠ (0 : Int) ∧
 inI64 (x + (1 : Int)) ∧
 (0 : Int) = (0 : Int) ∧
 (0 : Int) = (0 : Int) ∧
 I (x + (1 : Int))
 ((h * (257 : Int) + (↑(gt text x).toNat : Int) + (1 : Int)).tmod
 (2147483647 : Int))
 ((h_1 * (257 : Int)).tmod (2147483647 : Int)) ∧
 m (x + (1 : Int))
 ((h * (257 : Int) + (↑(gt text x).toNat : Int) + (1 : Int)).tmod
 (2147483647 : Int))
 ((h_1 * (257 : Int)).tmod (2147483647 : Int)) <
 m x h h_1) ∧
 (¬x < (↑text.length : Int) → (h, h_1) = polyOf text)) :
 Con Tryd.prog f_poly_Of poly_Of_ct := ⟨poly_Of_ok.able rfl, fun x hx =>
 con_eq hC (L := []) (trivial) poly_Of_ok (ct := poly_Of_ct) (depth := 0) rfl (by kernel_rfl) x (H (@id (List UInt8) x) (mpr' hx (by kernel_rfl))) (by kernel_rfl)⟩

theorem ref_cutLines_vc (hC : Cons Tryd.prog [])
 (H : ∀ (text : List UInt8), (text.length ≤ 1000000) →
 ∃ (I : Int → List (List UInt8) → Prop),
 ∃ (m : Int → List (List UInt8) → Nat),
 I 0 [[]] ∧
 ∀ (i : Int) (out : List (List UInt8)),
 I i out →
 (i < (↑text.length : Int) →
 0 ≤ i ∧
 i < (↑text.length : Int) ∧
 ((↑(gt text i).toNat : Int) = 10 →
 (out.length + 1) * 16 ≤ 140737488355328 ∧
 inI64 (i + 1) ∧ I (i + 1) (out ++ [[]]) ∧ m (i + 1) (out ++ [[]]) < m i out) ∧
 (¬(↑(gt text i).toNat : Int) = 10 →
 inI64 ((↑out.length : Int) - 1) ∧
 0 ≤ (↑out.length : Int) - 1 ∧
 (↑out.length : Int) - 1 < (↑out.length : Int) ∧
 inI64 (i + 1) ∧
 0 ≤ i ∧
 i ≤ i + 1 ∧
 i + 1 ≤ (↑text.length : Int) ∧
 inI64
 ((↑(gt out ((↑out.length : Int) - 1)).length : Int) +
 (↑(List.drop i.toNat (List.take (i + 1).toNat text)).length : Int)) ∧
 0 ≤ (↑out.length : Int) - 1 ∧
 (↑out.length : Int) - 1 < (↑out.length : Int) ∧
 inI64 (i + 1) ∧
 I (i + 1)
 (out.set ((↑out.length : Int) - 1).toNat
 (gt out ((↑out.length : Int) - 1) ++
 List.drop i.toNat (List.take (i + 1).toNat text))) ∧
 m (i + 1)
 (out.set ((↑out.length : Int) - 1).toNat
 (gt out ((↑out.length : Int) - 1) ++
 List.drop i.toNat (List.take (i + 1).toNat text))) <
 m i out)) ∧
 (¬i < (↑text.length : Int) → out = cutLines text)) :
 Con Tryd.prog f_ref_cutLines ref_cutLines_ct := ⟨ref_cutLines_ok.able rfl, fun x hx =>
 con_eq hC (L := []) (trivial) ref_cutLines_ok (ct := ref_cutLines_ct) (depth := 0) rfl (by kernel_rfl) x (H (@id (List UInt8) x) (mpr' hx (by kernel_rfl))) (by kernel_rfl)⟩

theorem ref_PolyOf_vc (hC : Cons Tryd.prog [])
 (H : ∀ (text : List UInt8), (fitS text) →
 inI64 ((↑text.length : Int) - (1 : Int)) ∧
 ∃ (I : Int → Int → Int → Prop),
 ∃ (m : Int → Int → Int → Nat),
 ((0 : Int) = (0 : Int) ∧ (0 : Int) = (0 : Int) ∧ I (1 : Int) (0 : Int) ((↑text.length : Int) - (1 : Int))) ∧
 ∀ (power sum i : Int),
 I power sum i →
 ((0 : Int) ≤ i →
 (0 : Int) ≤ i ∧
 i < (↑text.length : Int) ∧
 inI64 ((↑(gt text i).toNat : Int) + (1 : Int)) ∧
 inI64 (((↑(gt text i).toNat : Int) + (1 : Int)) * power) ∧
 inI64 (sum + ((↑(gt text i).toNat : Int) + (1 : Int)) * power) ∧
 (2147483647 : Int) ≠ (0 : Int) ∧
 inI64 (power * (257 : Int)) ∧
 (2147483647 : Int) ≠ (0 : Int) ∧
 inI64 (i - (1 : Int)) ∧
 (0 : Int) = (0 : Int) ∧
 (0 : Int) = (0 : Int) ∧
 I ((power * (257 : Int)).tmod (2147483647 : Int))
 ((sum + ((↑(gt text i).toNat : Int) + (1 : Int)) * power).tmod
 (2147483647 : Int))
 (i - (1 : Int)) ∧
 m ((power * (257 : Int)).tmod (2147483647 : Int))
 ((sum + ((↑(gt text i).toNat : Int) + (1 : Int)) * power).tmod
 (2147483647 : Int))
 (i - (1 : Int)) <
 m power sum i) ∧
 (¬(0 : Int) ≤ i → (sum, power) = polyOf text)) :
 Con Tryd.prog f_ref_PolyOf ref_PolyOf_ct := ⟨ref_PolyOf_ok.able rfl, fun x hx =>
 con_eq hC (L := []) (trivial) ref_PolyOf_ok (ct := ref_PolyOf_ct) (depth := 0) rfl (by kernel_rfl) x (H (@id (List UInt8) x) (mpr' hx (by kernel_rfl))) (by kernel_rfl)⟩

theorem ref_PolyLines_vc (hC : Cons Tryd.prog [(f_ref_cutLines, ref_cutLines_ct), (f_ref_PolyOf, ref_PolyOf_ct)])
 (H : ∀ (text : List UInt8), (True) →
 (600 < (↑text.length : Int) → [] = (polyLines text).fst ∧ 1 = (polyLines text).snd) ∧
 (¬600 < (↑text.length : Int) →
 text.length ≤ 1000000 ∧
 ∃ (I : Int → List Int → Prop),
 ∃ (m : Int → List Int → Nat),
 (cutLines text = cutLines text ∧ I 0 []) ∧
 ∀ (x : Int) (out : List Int),
 I x out →
 (x < (↑(cutLines text).length : Int) →
 0 ≤ x ∧
 x < (↑(cutLines text).length : Int) ∧
 fitS (gt (cutLines text) x) ∧
 (out.length + 1) * 8 ≤ 140737488355328 ∧
 inI64 (x + 1) ∧
 cutLines text = cutLines text ∧
 I (x + 1) (out ++ [(polyOf (gt (cutLines text) x)).fst]) ∧
 m (x + 1) (out ++ [(polyOf (gt (cutLines text) x)).fst]) < m x out) ∧
 (¬x < (↑(cutLines text).length : Int) → out = (polyLines text).fst ∧ 0 = (polyLines text).snd))) :
 Con Tryd.prog f_ref_PolyLines ref_PolyLines_ct := ⟨ref_PolyLines_ok.able rfl, fun x hx =>
 con_eq hC (L := []) (trivial) ref_PolyLines_ok (ct := ref_PolyLines_ct) (depth := 0) rfl (by kernel_rfl) x (H (@id (List UInt8) x) (mpr' hx (by kernel_rfl))) (by kernel_rfl)⟩

theorem law_sameInts_vc (hC : Cons Tryd.prog [])
 (H : ∀ (a : List Int) (b : List Int), (fitL a ∧ fitL b) →
 ((↑a.length : Int) ≠ (↑b.length : Int) → false = bo (a = b)) ∧
 (¬(↑a.length : Int) ≠ (↑b.length : Int) →
 ∃ (I : Int → Prop),
 ∃ (m : Int → Nat),
 I 0 ∧
 ∀ (i : Int),
 I i →
 (i < (↑a.length : Int) →
 0 ≤ i ∧
 i < (↑a.length : Int) ∧
 0 ≤ i ∧
 i < (↑b.length : Int) ∧
 (gt a i ≠ gt b i → false = bo (a = b)) ∧
 (¬gt a i ≠ gt b i → inI64 (i + 1) ∧ I (i + 1) ∧ m (i + 1) < m i)) ∧
 (¬i < (↑a.length : Int) → true = bo (a = b)))) :
 Con Tryd.prog f_law_sameInts law_sameInts_ct := ⟨law_sameInts_ok.able rfl, fun x hx =>
 con_eq hC (L := []) (trivial) law_sameInts_ok (ct := law_sameInts_ct) (depth := 0) rfl (by kernel_rfl) x (H (@id (List Int × List Int) x).1 (@id (List Int × List Int) x).2 (mpr' hx (by kernel_rfl))) (by kernel_rfl)⟩

theorem law_PolyLineses_vc (hC : Cons Tryd.prog [(f_poly_Lines, poly_Lines_ct), (f_ref_PolyLines, ref_PolyLines_ct), (f_law_sameInts, law_sameInts_ct)])
 (H : ∀ (text : List UInt8), (text.length.le 140737488351232) →
 True ∧
 True ∧
 (fitL (polyLines text).fst ∧ fitL (polyLines text).fst) ∧
 bo (bo ((polyLines text).fst = (polyLines text).fst) = true ∧ (polyLines text).snd = (polyLines text).snd) = true) :
 Con Tryd.prog f_law_PolyLineses law_PolyLineses_ct := ⟨law_PolyLineses_ok.able rfl, fun x hx =>
 con_eq hC (L := []) (trivial) law_PolyLineses_ok (ct := law_PolyLineses_ct) (depth := 0) rfl (by kernel_rfl) x (H (@id (List UInt8) x) (mpr' hx (by kernel_rfl))) (by kernel_rfl)⟩

end Go.Proofs.YtakkifkpihdcnaaDoor
