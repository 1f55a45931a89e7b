/- The typed conditions of the functions, printed by a program of the claim's author; each gives the contract of its function. Conditions: none. -/
import Derived.Test.YtfelfimcnidplaaGFindManys
import Derived.Test.YtfelfimcnidplaaVpA
import Derived.Test.YtfelfimcnidplaaVpB
import Derived.Test.YtfelfimcnidplaaVpC
import Derived.Test.YtfelfimcnidplaaVpD
import Derived.Test.YtfelfimcnidplaaVpE
import Derived.Test.YtfelfimcnidplaaVpG
import Derived.Test.YtfelfimcnidplaaVpI
import Derived.Test.YtfelfimcnidplaaVpK
import Derived.Test.YtfelfimcnidplaaVpY
import Derived.Test.YtfelfimcnidplaaVpFM
import Derived.Test.YtfelfimcnidplaaVpZ
import Derived.Test.YtfelfimcnidplaaF4
import Derived.Test.YtfelfimcnidplaaBase
set_option linter.unusedVariables false
set_option linter.unusedSimpArgs false
set_option maxRecDepth 100000
namespace Go.Proofs.Ytfelfimcnidplaa
open Go.Vc Go.Fu

theorem find_fault_vc (hC : Cons Try.prog [])
 (H : ∀ (text : List UInt8) (find : List UInt8), (True) →
 (600 < (↑text.length : Int) ∨ 20 < (↑find.length : Int) → 1 = findFault text find) ∧
 (¬(600 < (↑text.length : Int) ∨ 20 < (↑find.length : Int)) →
 (find = [] → 4 = findFault text find) ∧ (¬find = [] → 0 = findFault text find))) :
 Con Try.prog f_find_fault find_fault_ct := ⟨find_fault_ok.able rfl, fun x hx =>
 con_eq hC (L := []) (trivial) find_fault_ok (ct := find_fault_ct) (depth := 0) rfl (by kernel_rfl) x (H (@id (List UInt8 × List UInt8) x).1 (@id (List UInt8 × List UInt8) x).2 (mpr' hx (by kernel_rfl))) (by kernel_rfl)⟩

theorem slices_Index___string_string__vc (hC : Cons Try.prog [])
 (H : ∀ (s : List (List UInt8)) (v : List UInt8), (lsFit s) →
 ∃ (I : Int → Prop),
 ∃ (m : Int → Nat),
 I 0 ∧
 ∀ (x : Int),
 I x →
 (x < (↑s.length : Int) →
 0 ≤ x ∧
 x < (↑s.length : Int) ∧
 (v = gt s x → x = indexS s v) ∧ (¬v = gt s x → inI64 (x + 1) ∧ I (x + 1) ∧ m (x + 1) < m x)) ∧
 (¬x < (↑s.length : Int) → -1 = indexS s v)) :
 Con Try.prog f_slices_Index___string_string_ slices_Index___string_string__ct := ⟨slices_Index___string_string__ok.able rfl, fun x hx =>
 con_eq hC (L := []) (trivial) slices_Index___string_string__ok (ct := slices_Index___string_string__ct) (depth := 0) rfl (by kernel_rfl) x (H (@id (List (List UInt8) × List UInt8) x).1 (@id (List (List UInt8) × List UInt8) x).2 (mpr' hx (by kernel_rfl))) (by kernel_rfl)⟩

theorem slices_Contains___string_string__vc (hC : Cons Try.prog [(f_slices_Index___string_string_, slices_Index___string_string__ct)])
 (H : ∀ (s : List (List UInt8)) (v : List UInt8), (lsFit s) →
 lsFit s ∧ bo (0 ≤ indexS s v) = inS s v) :
 Con Try.prog f_slices_Contains___string_string_ slices_Contains___string_string__ct := ⟨slices_Contains___string_string__ok.able rfl, fun x hx =>
 con_eq hC (L := []) (trivial) slices_Contains___string_string__ok (ct := slices_Contains___string_string__ct) (depth := 0) rfl (by kernel_rfl) x (H (@id (List (List UInt8) × List UInt8) x).1 (@id (List (List UInt8) × List UInt8) x).2 (mpr' hx (by kernel_rfl))) (by kernel_rfl)⟩

theorem cmp_isNaN_int__vc (hC : Cons Try.prog [])
 (H : ∀ (x : Int), (True) →
 bo (x ≠ x) = false) :
 Con Try.prog f_cmp_isNaN_int_ cmp_isNaN_int__ct := ⟨cmp_isNaN_int__ok.able rfl, fun x hx =>
 con_eq hC (L := []) (trivial) cmp_isNaN_int__ok (ct := cmp_isNaN_int__ct) (depth := 3) rfl (by kernel_rfl) x (H (@id (Int) x) (mpr' hx (by kernel_rfl))) (by kernel_rfl)⟩

theorem cmp_Compare_int__vc (hC : Cons Try.prog [(f_cmp_isNaN_int_, cmp_isNaN_int__ct)])
 (H : ∀ (x : Int) (y : Int), (True) →
 True ∧
 True ∧
 (false = true → (false = true → 0 = cmpI x y) ∧ (¬false = true → -1 = cmpI x y)) ∧
 (¬false = true →
 (false = true → 1 = cmpI x y) ∧
 (¬false = true → (x < y → -1 = cmpI x y) ∧ (¬x < y → (y < x → 1 = cmpI x y) ∧ (¬y < x → 0 = cmpI x y))))) :
 Con Try.prog f_cmp_Compare_int_ cmp_Compare_int__ct := ⟨cmp_Compare_int__ok.able rfl, fun x hx =>
 con_eq hC (L := []) (trivial) cmp_Compare_int__ok (ct := cmp_Compare_int__ct) (depth := 3) rfl (by kernel_rfl) x (H (@id (Int × Int) x).1 (@id (Int × Int) x).2 (mpr' hx (by kernel_rfl))) (by kernel_rfl)⟩

theorem find_Many_1_vc (hC : Cons Try.prog [(f_cmp_Compare_int_, cmp_Compare_int__ct)])
 (H : ∀ (a : Int × Int) (b : Int × Int), (True) →
 True ∧ cmpI a.fst b.fst = cmpI a.fst b.fst) :
 Con Try.prog f_find_Many_1 find_Many_1_ct := ⟨find_Many_1_ok.able rfl, fun x hx =>
 con_eq hC (L := []) (trivial) find_Many_1_ok (ct := find_Many_1_ct) (depth := 0) rfl (by kernel_rfl) x (H (@id ((Int × Int) × (Int × Int)) x).1 (@id ((Int × Int) × (Int × Int)) x).2 (mpr' hx (by kernel_rfl))) (by kernel_rfl)⟩

theorem ref_findFault_vc (hC : Cons Try.prog [])
 (H : ∀ (text : List UInt8) (find : List UInt8), (True) →
 (600 < (↑text.length : Int) ∨ 20 < (↑find.length : Int) → 1 = findFault text find) ∧
 (¬(600 < (↑text.length : Int) ∨ 20 < (↑find.length : Int)) →
 (find = [] → 4 = findFault text find) ∧ (¬find = [] → 0 = findFault text find))) :
 Con Try.prog f_ref_findFault ref_findFault_ct := ⟨ref_findFault_ok.able rfl, fun x hx =>
 con_eq hC (L := []) (trivial) ref_findFault_ok (ct := ref_findFault_ct) (depth := 0) rfl (by kernel_rfl) x (H (@id (List UInt8 × List UInt8) x).1 (@id (List UInt8 × List UInt8) x).2 (mpr' hx (by kernel_rfl))) (by kernel_rfl)⟩

theorem ref_standsAt_vc (hC : Cons Try.prog [])
 (H : ∀ (text : List UInt8) (find : List UInt8) (at_ : Int), (fitS text ∧ fitS find ∧ standPre at_) →
 (0 ≤ at_ → inI64 (at_ + (↑find.length : Int))) ∧
 (0 ≤ at_ ∧ at_ + (↑find.length : Int) ≤ (↑text.length : Int) → inI64 (at_ + (↑find.length : Int))) ∧
 (0 ≤ at_ ∧ at_ + (↑find.length : Int) ≤ (↑text.length : Int) → 0 ≤ at_) ∧
 (0 ≤ at_ ∧ at_ + (↑find.length : Int) ≤ (↑text.length : Int) → at_ ≤ at_ + (↑find.length : Int)) ∧
 (0 ≤ at_ ∧ at_ + (↑find.length : Int) ≤ (↑text.length : Int) →
 at_ + (↑find.length : Int) ≤ (↑text.length : Int)) ∧
 bo
 ((0 ≤ at_ ∧ at_ + (↑find.length : Int) ≤ (↑text.length : Int)) ∧
 List.drop at_.toNat (List.take (at_ + (↑find.length : Int)).toNat text) = find) =
 bo (stands text find at_)) :
 Con Try.prog f_ref_standsAt ref_standsAt_ct := ⟨ref_standsAt_ok.able rfl, fun x hx =>
 con_eq hC (L := []) (trivial) ref_standsAt_ok (ct := ref_standsAt_ct) (depth := 0) rfl (by kernel_rfl) x (H (@id (List UInt8 × List UInt8 × Int) x).1 (@id (List UInt8 × List UInt8 × Int) x).2.1 (@id (List UInt8 × List UInt8 × Int) x).2.2 (mpr' hx (by kernel_rfl))) (by kernel_rfl)⟩

theorem ref_FindMany_vc (hC : Cons Try.prog [(f_ref_findFault, ref_findFault_ct), (f_ref_standsAt, ref_standsAt_ct)])
 (H : ∀ (text : List UInt8) (finds : List (List UInt8)), (fmPre text finds) →
 ((600 : Int) < (↑text.length : Int) ∨ (20 : Int) < (↑finds.length : Int) →
 [] = (findMany text finds).fst ∧ (1 : Int) = (findMany text finds).snd) ∧
 (¬((600 : Int) < (↑text.length : Int) ∨ (20 : Int) < (↑finds.length : Int)) →
 ∃ (I : Int → Prop),
 ∃ (m : Int → Nat),
 I (0 : Int) ∧
 ∀ (x : Int),
 I x →
 (x < (↑finds.length : Int) →
 (0 : Int) ≤ x ∧
 x < (↑finds.length : Int) ∧
 True ∧
 (findFault text (gt finds x) ≠ (0 : Int) →
 [] = (findMany text finds).fst ∧ findFault text (gt finds x) = (findMany text finds).snd) ∧
 (¬findFault text (gt finds x) ≠ (0 : Int) →
 (0 : Int) ≤ (0 : Int) ∧
 (0 : Int) ≤ x ∧
 x ≤ (↑finds.length : Int) ∧
 ∃ (I_1 : Int → Prop),
 ∃ (m_1 : Int → Nat),
 I_1 (0 : Int) ∧
 ∀ (x_1 : Int),
 I_1 x_1 →
 (x_1 <
 (↑(List.drop (Int.toNat (0 : Int)) (List.take x.toNat finds)).length :
 Int) →
 (0 : Int) ≤ x_1 ∧
 x_1 <
 (↑(List.drop (Int.toNat (0 : Int))
 (List.take x.toNat finds)).length :
 Int) ∧
 (gt finds x =
 gt (List.drop (Int.toNat (0 : Int)) (List.take x.toNat finds))
 x_1 →
 [] = (findMany text finds).fst ∧
 (4 : Int) = (findMany text finds).snd) ∧
 (¬gt finds x =
 gt
 (List.drop (Int.toNat (0 : Int))
 (List.take x.toNat finds))
 x_1 →
 inI64 (x_1 + (1 : Int)) ∧
 I_1 (x_1 + (1 : Int)) ∧ m_1 (x_1 + (1 : Int)) < m_1 x_1)) ∧
 (¬x_1 <
 (↑(List.drop (Int.toNat (0 : Int))
 (List.take x.toNat finds)).length :
 Int) →
 inI64 (x + (1 : Int)) ∧ I (x + (1 : Int)) ∧ m (x + (1 : Int)) < m x))) ∧
 (¬x < (↑finds.length : Int) →
 ∃ (I : Int → List (Int × Int) → Prop),
 ∃ (m : Int → List (Int × Int) → Nat),
 I (1 : Int) [] ∧
 ∀ (endQ : Int) (out : List (Int × Int)),
 I endQ out →
 (endQ ≤ (↑text.length : Int) →
 ∃ (I_1 : Int → List (Int × Int) → Prop),
 ∃ (m_1 : Int → List (Int × Int) → Nat),
 I_1 (20 : Int) out ∧
 ∀ (long : Int) (out_1 : List (Int × Int)),
 I_1 long out_1 →
 ((0 : Int) < long →
 ∃ (I : Int → List (Int × Int) → Prop),
 ∃ (m : Int → List (Int × Int) → Nat),
 I (0 : Int) out_1 ∧
 ∀ (x : Int) (out : List (Int × Int)),
 I x out →
 (x < (↑finds.length : Int) →
 (0 : Int) ≤ x ∧
 x < (↑finds.length : Int) ∧
 ((↑(gt finds x).length : Int) = long →
 inI64 (endQ - long)) ∧
 ((↑(gt finds x).length : Int) = long →
 fitS text ∧
 fitS (gt finds x) ∧ standPre (endQ - long)) ∧
 ((↑(gt finds x).length : Int) = long ∧
 bo (stands text (gt finds x) (endQ - long)) =
 true →
 inI64 (endQ - long) ∧
 (out.length + (1 : Nat)) * (16 : Nat) ≤
 (140737488355328 : Nat) ∧
 inI64 (x + (1 : Int)) ∧
 I (x + (1 : Int))
 (out ++ [(endQ - long, x)]) ∧
 m (x + (1 : Int))
 (out ++ [(endQ - long, x)]) <
 m x out) ∧
 (¬((↑(gt finds x).length : Int) = long ∧
 bo
 (stands text (gt finds x)
 (endQ - long)) =
 true) →
 inI64 (x + (1 : Int)) ∧
 I (x + (1 : Int)) out ∧
 m (x + (1 : Int)) out < m x out)) ∧
 (¬x < (↑finds.length : Int) →
 inI64 (long - (1 : Int)) ∧
 I_1 (long - (1 : Int)) out ∧
 m_1 (long - (1 : Int)) out < m_1 long out_1)) ∧
 (¬(0 : Int) < long →
 inI64 (endQ + (1 : Int)) ∧
 I (endQ + (1 : Int)) out_1 ∧
 m (endQ + (1 : Int)) out_1 < m endQ out)) ∧
 (¬endQ ≤ (↑text.length : Int) →
 out = (findMany text finds).fst ∧ (0 : Int) = (findMany text finds).snd)))) :
 Con Try.prog f_ref_FindMany ref_FindMany_ct := ⟨ref_FindMany_ok.able rfl, fun x hx =>
 con_eq hC (L := []) (trivial) ref_FindMany_ok (ct := ref_FindMany_ct) (depth := 0) rfl (by kernel_rfl) x (H (@id (List UInt8 × List (List UInt8)) x).1 (@id (List UInt8 × List (List UInt8)) x).2 (mpr' hx (by kernel_rfl))) (by kernel_rfl)⟩

theorem law_FindManys_vc (hC : Cons Try.prog [(f_find_Many, find_Many_ct), (f_ref_FindMany, ref_FindMany_ct)])
 (H : ∀ (text : List UInt8) (finds : List (List UInt8)), (text.length.le 140737488351232 ∧
 finds.length ≤ 140737488351232 ∧ ∀ (x : List UInt8), List.Mem x finds → x.length.le 140737488351232) →
 fmPre text finds ∧
 fmPre text finds ∧
 ((↑(findMany text finds).fst.length : Int) ≠ (↑(findMany text finds).fst.length : Int) ∨
 (findMany text finds).snd ≠ (findMany text finds).snd →
 false = true) ∧
 (¬((↑(findMany text finds).fst.length : Int) ≠ (↑(findMany text finds).fst.length : Int) ∨
 (findMany text finds).snd ≠ (findMany text finds).snd) →
 ∃ (I : Int → Prop),
 ∃ (m : Int → Nat),
 ((findMany text finds).fst = (findMany text finds).fst ∧
 (findMany text finds).fst = (findMany text finds).fst ∧ I 0) ∧
 ∀ (i : Int),
 I i →
 (i < (↑(findMany text finds).fst.length : Int) →
 0 ≤ i ∧
 i < (↑(findMany text finds).fst.length : Int) ∧
 0 ≤ i ∧
 i < (↑(findMany text finds).fst.length : Int) ∧
 (¬((gt (findMany text finds).fst i).fst = (gt (findMany text finds).fst i).fst ∧
 (gt (findMany text finds).fst i).snd = (gt (findMany text finds).fst i).snd) →
 false = true) ∧
 (¬¬((gt (findMany text finds).fst i).fst = (gt (findMany text finds).fst i).fst ∧
 (gt (findMany text finds).fst i).snd = (gt (findMany text finds).fst i).snd) →
 inI64 (i + 1) ∧
 (findMany text finds).fst = (findMany text finds).fst ∧
 (findMany text finds).fst = (findMany text finds).fst ∧
 I (i + 1) ∧ m (i + 1) < m i)) ∧
 (¬i < (↑(findMany text finds).fst.length : Int) → true = true))) :
 Con Try.prog f_law_FindManys law_FindManys_ct := ⟨law_FindManys_ok.able rfl, fun x hx =>
 con_eq hC (L := []) (trivial) law_FindManys_ok (ct := law_FindManys_ct) (depth := 0) rfl (by kernel_rfl) x (H (@id (List UInt8 × List (List UInt8)) x).1 (@id (List UInt8 × List (List UInt8)) x).2 (mpr' hx (by kernel_rfl))) (by kernel_rfl)⟩

end Go.Proofs.Ytfelfimcnidplaa
