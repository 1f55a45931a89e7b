/- The typed conditions of the functions, printed by a program of the claim's author; each gives the contract of its function. Conditions: none. -/
import Derived.Test.YtomipmjgcgihiaaGFindReplaces
import Derived.Test.YtomipmjgcgihiaaVpA
import Derived.Test.YtomipmjgcgihiaaVpB
import Derived.Test.YtomipmjgcgihiaaVpC
import Derived.Test.YtomipmjgcgihiaaVpD
import Derived.Test.YtomipmjgcgihiaaVpE
import Derived.Test.YtomipmjgcgihiaaVpG
import Derived.Test.YtomipmjgcgihiaaVpI
import Derived.Test.YtomipmjgcgihiaaVpK
import Derived.Test.YtomipmjgcgihiaaVpRE
import Derived.Test.YtomipmjgcgihiaaVpRF
import Derived.Test.YtomipmjgcgihiaaRep
import Derived.Test.YtomipmjgcgihiaaBase
set_option linter.unusedVariables false
set_option linter.unusedSimpArgs false
set_option maxRecDepth 100000
namespace Go.Proofs.Ytomipmjgcgihiaa
open Go.Vc Go.Fu

theorem find_fault_vc (hC : Cons Try.prog [])
 (H : ∀ (text : List UInt8) (find : List UInt8), (True) →
 (600 < (↑text.length : Int) ∨ 20 < (↑find.length : Int) → 1 = findFault text find) ∧
 (¬(600 < (↑text.length : Int) ∨ 20 < (↑find.length : Int)) →
 (find = [] → 4 = findFault text find) ∧ (¬find = [] → 0 = findFault text find))) :
 Con Try.prog f_find_fault find_fault_ct := ⟨find_fault_ok.able rfl, fun x hx =>
 con_eq hC (L := []) (trivial) find_fault_ok (ct := find_fault_ct) (depth := 0) rfl (by kernel_rfl) x (H (@id (List UInt8 × List UInt8) x).1 (@id (List UInt8 × List UInt8) x).2 (mpr' hx (by kernel_rfl))) (by kernel_rfl)⟩

theorem find_border_vc (hC : Cons Try.prog [])
 (H : ∀ (s : List UInt8), (s.length ≤ 1000000) →
 (↑s.length : Int) = (↑s.length : Int) ∧
 0 ≤ (↑s.length : Int) ∧
 8 * (↑s.length : Int).toNat ≤ 140737488355328 ∧
 ∃ (I : Int → Int → List Int → Prop),
 ∃ (m : Int → Int → List Int → Nat),
 I 0 1 (List.replicate (↑s.length : Int).toNat 0) ∧
 ∀ (n i : Int) (out : List Int),
 I n i out →
 (i < (↑s.length : Int) →
 ∃ (I_1 : Int → Prop),
 ∃ (m_1 : Int → Nat),
 (out = out ∧ I_1 n) ∧
 ∀ (n_1 : Int),
 I_1 n_1 →
 (0 < n_1 → 0 ≤ i) ∧
 (0 < n_1 → i < (↑s.length : Int)) ∧
 (0 < n_1 → 0 ≤ n_1) ∧
 (0 < n_1 → n_1 < (↑s.length : Int)) ∧
 (0 < n_1 ∧ gt s i ≠ gt s n_1 →
 inI64 (n_1 - 1) ∧
 0 ≤ n_1 - 1 ∧
 n_1 - 1 < (↑out.length : Int) ∧
 out = out ∧ I_1 (gt out (n_1 - 1)) ∧ m_1 (gt out (n_1 - 1)) < m_1 n_1) ∧
 (¬(0 < n_1 ∧ gt s i ≠ gt s n_1) →
 0 ≤ i ∧
 i < (↑s.length : Int) ∧
 0 ≤ n_1 ∧
 n_1 < (↑s.length : Int) ∧
 (gt s i = gt s n_1 → inI64 (n_1 + 1)) ∧
 0 ≤ i ∧
 i < (↑out.length : Int) ∧
 inI64 (i + 1) ∧
 I (iteP (gt s i = gt s n_1) (n_1 + 1) n_1) (i + 1)
 (out.set i.toNat
 (iteP (gt s i = gt s n_1) (n_1 + 1) n_1)) ∧
 m (iteP (gt s i = gt s n_1) (n_1 + 1) n_1) (i + 1)
 (out.set i.toNat
 (iteP (gt s i = gt s n_1) (n_1 + 1) n_1)) <
 m n i out)) ∧
 (¬i < (↑s.length : Int) → out = borders s)) :
 Con Try.prog f_find_border find_border_ct := ⟨find_border_ok.able rfl, fun x hx =>
 con_eq hC (L := []) (trivial) find_border_ok (ct := find_border_ct) (depth := 0) rfl (by kernel_rfl) x (H (@id (List UInt8) x) (mpr' hx (by kernel_rfl))) (by kernel_rfl)⟩

theorem find_In_vc (hC : Cons Try.prog [(f_find_border, find_border_ct)])
 (H : ∀ (text : List UInt8) (find : List UInt8), (text.length ≤ 100000 ∧ find.length ≤ 100000 ∧ find ≠ []) →
 find.length ≤ 1000000 ∧
 ∃ (I : Int → Int → List Int → Prop),
 ∃ (m : Int → Int → List Int → Nat),
 (borders find = borders find ∧ I 0 0 []) ∧
 ∀ (n x : Int) (out : List Int),
 I n x out →
 (x < (↑text.length : Int) →
 ∃ (I_1 : Int → Prop),
 ∃ (m_1 : Int → Nat),
 (borders find = borders find ∧ out = out ∧ I_1 n) ∧
 ∀ (n_1 : Int),
 I_1 n_1 →
 (0 < n_1 ∧ ¬n_1 = (↑find.length : Int) → 0 ≤ x) ∧
 (0 < n_1 ∧ ¬n_1 = (↑find.length : Int) → x < (↑text.length : Int)) ∧
 (0 < n_1 ∧ ¬n_1 = (↑find.length : Int) → 0 ≤ n_1) ∧
 (0 < n_1 ∧ ¬n_1 = (↑find.length : Int) → n_1 < (↑find.length : Int)) ∧
 (0 < n_1 ∧ (n_1 = (↑find.length : Int) ∨ gt text x ≠ gt find n_1) →
 inI64 (n_1 - 1) ∧
 0 ≤ n_1 - 1 ∧
 n_1 - 1 < (↑(borders find).length : Int) ∧
 borders find = borders find ∧
 out = out ∧
 I_1 (gt (borders find) (n_1 - 1)) ∧
 m_1 (gt (borders find) (n_1 - 1)) < m_1 n_1) ∧
 (¬(0 < n_1 ∧ (n_1 = (↑find.length : Int) ∨ gt text x ≠ gt find n_1)) →
 0 ≤ x ∧
 x < (↑text.length : Int) ∧
 0 ≤ n_1 ∧
 n_1 < (↑find.length : Int) ∧
 (gt text x = gt find n_1 → inI64 (n_1 + 1)) ∧
 (iteP (gt text x = gt find n_1) (n_1 + 1) n_1 = (↑find.length : Int) →
 inI64 (x + 1) ∧
 inI64 (x + 1 - iteP (gt text x = gt find n_1) (n_1 + 1) n_1) ∧
 (out.length + 1) * 8 ≤ 140737488355328 ∧
 inI64 (x + 1) ∧
 borders find = borders find ∧
 I (iteP (gt text x = gt find n_1) (n_1 + 1) n_1) (x + 1)
 (out ++
 [x + 1 -
 iteP (gt text x = gt find n_1) (n_1 + 1) n_1]) ∧
 m (iteP (gt text x = gt find n_1) (n_1 + 1) n_1) (x + 1)
 (out ++
 [x + 1 -
 iteP (gt text x = gt find n_1) (n_1 + 1)
 n_1]) <
 m n x out) ∧
 (¬iteP (gt text x = gt find n_1) (n_1 + 1) n_1 =
 (↑find.length : Int) →
 inI64 (x + 1) ∧
 borders find = borders find ∧
 I (iteP (gt text x = gt find n_1) (n_1 + 1) n_1) (x + 1) out ∧
 m (iteP (gt text x = gt find n_1) (n_1 + 1) n_1) (x + 1) out <
 m n x out))) ∧
 (¬x < (↑text.length : Int) → out = findAt text find)) :
 Con Try.prog f_find_In find_In_ct := ⟨find_In_ok.able rfl, fun x hx =>
 con_eq hC (L := []) (trivial) find_In_ok (ct := find_In_ct) (depth := 0) rfl (by kernel_rfl) x (H (@id (List UInt8 × List UInt8) x).1 (@id (List UInt8 × List UInt8) x).2 (mpr' hx (by kernel_rfl))) (by kernel_rfl)⟩

theorem ref_findFault_vc (hC : Cons Try.prog [])
 (H : ∀ (text : List UInt8) (find : List UInt8), (True) →
 (600 < (↑text.length : Int) ∨ 20 < (↑find.length : Int) → 1 = findFault text find) ∧
 (¬(600 < (↑text.length : Int) ∨ 20 < (↑find.length : Int)) →
 (find = [] → 4 = findFault text find) ∧ (¬find = [] → 0 = findFault text find))) :
 Con Try.prog f_ref_findFault ref_findFault_ct := ⟨ref_findFault_ok.able rfl, fun x hx =>
 con_eq hC (L := []) (trivial) ref_findFault_ok (ct := ref_findFault_ct) (depth := 0) rfl (by kernel_rfl) x (H (@id (List UInt8 × List UInt8) x).1 (@id (List UInt8 × List UInt8) x).2 (mpr' hx (by kernel_rfl))) (by kernel_rfl)⟩

theorem ref_standsAt_vc (hC : Cons Try.prog [])
 (H : ∀ (text : List UInt8) (find : List UInt8) (at_ : Int), (fitS text ∧ fitS find ∧ standPre at_) →
 (0 ≤ at_ → inI64 (at_ + (↑find.length : Int))) ∧
 (0 ≤ at_ ∧ at_ + (↑find.length : Int) ≤ (↑text.length : Int) → inI64 (at_ + (↑find.length : Int))) ∧
 (0 ≤ at_ ∧ at_ + (↑find.length : Int) ≤ (↑text.length : Int) → 0 ≤ at_) ∧
 (0 ≤ at_ ∧ at_ + (↑find.length : Int) ≤ (↑text.length : Int) → at_ ≤ at_ + (↑find.length : Int)) ∧
 (0 ≤ at_ ∧ at_ + (↑find.length : Int) ≤ (↑text.length : Int) →
 at_ + (↑find.length : Int) ≤ (↑text.length : Int)) ∧
 bo
 ((0 ≤ at_ ∧ at_ + (↑find.length : Int) ≤ (↑text.length : Int)) ∧
 List.drop at_.toNat (List.take (at_ + (↑find.length : Int)).toNat text) = find) =
 bo (stands text find at_)) :
 Con Try.prog f_ref_standsAt ref_standsAt_ct := ⟨ref_standsAt_ok.able rfl, fun x hx =>
 con_eq hC (L := []) (trivial) ref_standsAt_ok (ct := ref_standsAt_ct) (depth := 0) rfl (by kernel_rfl) x (H (@id (List UInt8 × List UInt8 × Int) x).1 (@id (List UInt8 × List UInt8 × Int) x).2.1 (@id (List UInt8 × List UInt8 × Int) x).2.2 (mpr' hx (by kernel_rfl))) (by kernel_rfl)⟩

theorem ref_FindReplace_vc (hC : Cons Try.prog [(f_ref_findFault, ref_findFault_ct), (f_ref_standsAt, ref_standsAt_ct)])
 (H : ∀ (text : List UInt8) (find : List UInt8) (put : List UInt8), (fitS put) →
 True ∧
 (findFault text find ≠ 0 →
 [] = (findReplace text find put).fst ∧
 0 = (findReplace text find put).snd.fst ∧ findFault text find = (findReplace text find put).snd.snd) ∧
 (¬findFault text find ≠ 0 →
 ∃ (I : List UInt8 → Int → Int → Prop),
 ∃ (m : List UInt8 → Int → Int → Nat),
 I [] 0 0 ∧
 ∀ (out : List UInt8) (n at_ : Int),
 I out n at_ →
 (at_ < (↑text.length : Int) →
 (fitS text ∧ fitS find ∧ standPre at_) ∧
 (bo (stands text find at_) = true →
 inI64 (n + 1) ∧
 inI64 (at_ + (↑find.length : Int)) ∧
 ((↑out.length : Int) ≤ 600 → inI64 ((↑out.length : Int) + (↑put.length : Int))) ∧
 I (iteP ((↑out.length : Int) ≤ 600) (out ++ put) out) (n + 1)
 (at_ + (↑find.length : Int)) ∧
 m (iteP ((↑out.length : Int) ≤ 600) (out ++ put) out) (n + 1)
 (at_ + (↑find.length : Int)) <
 m out n at_) ∧
 (¬bo (stands text find at_) = true →
 inI64 (at_ + 1) ∧
 0 ≤ at_ ∧
 at_ ≤ at_ + 1 ∧
 at_ + 1 ≤ (↑text.length : Int) ∧
 inI64
 ((↑out.length : Int) +
 (↑(List.drop at_.toNat (List.take (at_ + 1).toNat text)).length : Int)) ∧
 inI64 (at_ + 1) ∧
 I (out ++ List.drop at_.toNat (List.take (at_ + 1).toNat text)) n (at_ + 1) ∧
 m (out ++ List.drop at_.toNat (List.take (at_ + 1).toNat text)) n (at_ + 1) <
 m out n at_)) ∧
 (¬at_ < (↑text.length : Int) →
 (600 < (↑out.length : Int) →
 [] = (findReplace text find put).fst ∧
 0 = (findReplace text find put).snd.fst ∧ 1 = (findReplace text find put).snd.snd) ∧
 (¬600 < (↑out.length : Int) →
 out = (findReplace text find put).fst ∧
 n = (findReplace text find put).snd.fst ∧ 0 = (findReplace text find put).snd.snd)))) :
 Con Try.prog f_ref_FindReplace ref_FindReplace_ct := ⟨ref_FindReplace_ok.able rfl, fun x hx =>
 con_eq hC (L := []) (trivial) ref_FindReplace_ok (ct := ref_FindReplace_ct) (depth := 0) rfl (by kernel_rfl) x (H (@id (List UInt8 × List UInt8 × List UInt8) x).1 (@id (List UInt8 × List UInt8 × List UInt8) x).2.1 (@id (List UInt8 × List UInt8 × List UInt8) x).2.2 (mpr' hx (by kernel_rfl))) (by kernel_rfl)⟩

theorem law_FindReplaces_vc (hC : Cons Try.prog [(f_find_Replace, find_Replace_ct), (f_ref_FindReplace, ref_FindReplace_ct)])
 (H : ∀ (text : List UInt8) (find : List UInt8) (put : List UInt8), (text.length.le 140737488351232 ∧ find.length.le 140737488351232 ∧ put.length.le 140737488351232) →
 fitS put ∧
 fitS put ∧
 bo
 (((findReplace text find put).fst = (findReplace text find put).fst ∧
 (findReplace text find put).snd.fst = (findReplace text find put).snd.fst) ∧
 (findReplace text find put).snd.snd = (findReplace text find put).snd.snd) =
 true) :
 Con Try.prog f_law_FindReplaces law_FindReplaces_ct := ⟨law_FindReplaces_ok.able rfl, fun x hx =>
 con_eq hC (L := []) (trivial) law_FindReplaces_ok (ct := law_FindReplaces_ct) (depth := 0) rfl (by kernel_rfl) x (H (@id (List UInt8 × List UInt8 × List UInt8) x).1 (@id (List UInt8 × List UInt8 × List UInt8) x).2.1 (@id (List UInt8 × List UInt8 × List UInt8) x).2.2 (mpr' hx (by kernel_rfl))) (by kernel_rfl)⟩

end Go.Proofs.Ytomipmjgcgihiaa
