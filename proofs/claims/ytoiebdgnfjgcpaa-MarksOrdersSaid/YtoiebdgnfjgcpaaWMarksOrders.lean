/- The typed conditions of the functions, printed by a program of the claim's author; each gives the contract of its function. Conditions: none. -/
import Derived.Test.YtoiebdgnfjgcpaaGMarksOrders
import Derived.Test.YtoiebdgnfjgcpaaVpA
import Derived.Test.YtoiebdgnfjgcpaaVpB
import Derived.Test.YtoiebdgnfjgcpaaVpY
import Derived.Test.YtoiebdgnfjgcpaaVpZ
import Derived.Test.YtoiebdgnfjgcpaaVpSA
import Derived.Test.YtoiebdgnfjgcpaaVpOM
import Derived.Test.YtoiebdgnfjgcpaaM4
import Derived.Test.YtoiebdgnfjgcpaaBase
set_option linter.unusedVariables false
set_option linter.unusedSimpArgs false
set_option maxRecDepth 100000
namespace Go.Proofs.Ytoiebdgnfjgcpaa
open Go.Vc Go.Fu

theorem cmp_isNaN_int__vc (hC : Cons Try.prog [])
 (H : ∀ (x : Int), (True) →
 bo (x ≠ x) = false) :
 Con Try.prog f_cmp_isNaN_int_ cmp_isNaN_int__ct := ⟨cmp_isNaN_int__ok.able rfl, fun x hx =>
 con_eq hC (L := []) (trivial) cmp_isNaN_int__ok (ct := cmp_isNaN_int__ct) (depth := 3) rfl (by kernel_rfl) x (H (@id (Int) x) (mpr' hx (by kernel_rfl))) (by kernel_rfl)⟩

theorem cmp_Compare_int__vc (hC : Cons Try.prog [(f_cmp_isNaN_int_, cmp_isNaN_int__ct)])
 (H : ∀ (x : Int) (y : Int), (True) →
 True ∧
 True ∧
 (false = true → (false = true → 0 = cmpI x y) ∧ (¬false = true → -1 = cmpI x y)) ∧
 (¬false = true →
 (false = true → 1 = cmpI x y) ∧
 (¬false = true → (x < y → -1 = cmpI x y) ∧ (¬x < y → (y < x → 1 = cmpI x y) ∧ (¬y < x → 0 = cmpI x y))))) :
 Con Try.prog f_cmp_Compare_int_ cmp_Compare_int__ct := ⟨cmp_Compare_int__ok.able rfl, fun x hx =>
 con_eq hC (L := []) (trivial) cmp_Compare_int__ok (ct := cmp_Compare_int__ct) (depth := 3) rfl (by kernel_rfl) x (H (@id (Int × Int) x).1 (@id (Int × Int) x).2 (mpr' hx (by kernel_rfl))) (by kernel_rfl)⟩

theorem cmp_Or_int__vc (hC : Cons Try.prog [])
 (H : ∀ (l : List Int), (fitL l) →
 ∃ (I : Int → Prop),
 ∃ (m : Int → Nat),
 I 0 ∧
 ∀ (x : Int),
 I x →
 (x < (↑l.length : Int) →
 0 ≤ x ∧
 x < (↑l.length : Int) ∧
 (gt l x ≠ 0 → gt l x = orL l) ∧ (¬gt l x ≠ 0 → inI64 (x + 1) ∧ I (x + 1) ∧ m (x + 1) < m x)) ∧
 (¬x < (↑l.length : Int) → 0 = orL l)) :
 Con Try.prog f_cmp_Or_int_ cmp_Or_int__ct := ⟨cmp_Or_int__ok.able rfl, fun x hx =>
 con_eq hC (L := []) (trivial) cmp_Or_int__ok (ct := cmp_Or_int__ct) (depth := 3) rfl (by kernel_rfl) x (H (@id (List Int) x) (mpr' hx (by kernel_rfl))) (by kernel_rfl)⟩

theorem ref_MarksOrder_vc (hC : Cons Try.prog [])
 (H : ∀ (ms : List (Int × Bool)), (True) →
 (60 < (↑ms.length : Int) → [] = (marksOrder ms).fst ∧ 1 = (marksOrder ms).snd) ∧
 (¬60 < (↑ms.length : Int) →
 (↑ms.length : Int) = (↑ms.length : Int) ∧
 0 ≤ (↑ms.length : Int) ∧
 8 * (↑ms.length : Int).toNat ≤ 140737488355328 ∧
 ∃ (I : Int → List Int → Prop),
 ∃ (m : Int → List Int → Nat),
 I 0 (List.replicate (↑ms.length : Int).toNat 0) ∧
 ∀ (x : Int) (out : List Int),
 I x out →
 (x < (↑ms.length : Int) →
 0 ≤ x ∧
 x < (↑ms.length : Int) ∧
 ∃ (I_1 : Int → Int → Prop),
 ∃ (m_1 : Int → Int → Nat),
 (out = out ∧ (gt ms x).fst = (gt ms x).fst ∧ (gt ms x).snd = (gt ms x).snd ∧ I_1 0 0) ∧
 ∀ (n x_1 : Int),
 I_1 n x_1 →
 (x_1 < (↑ms.length : Int) →
 0 ≤ x_1 ∧
 x_1 < (↑ms.length : Int) ∧
 ((gt ms x_1).fst < (gt ms x).fst ∨
 (gt ms x_1).fst = (gt ms x).fst ∧
 (¬(gt ms x_1).snd = true ∧ (gt ms x).snd = true ∨
 ((gt ms x_1).snd = true ↔ (gt ms x).snd = true) ∧ x_1 < x) →
 inI64 (n + 1) ∧
 inI64 (x_1 + 1) ∧
 out = out ∧
 (gt ms x).fst = (gt ms x).fst ∧
 (gt ms x).snd = (gt ms x).snd ∧
 I_1 (n + 1) (x_1 + 1) ∧ m_1 (n + 1) (x_1 + 1) < m_1 n x_1) ∧
 (¬((gt ms x_1).fst < (gt ms x).fst ∨
 (gt ms x_1).fst = (gt ms x).fst ∧
 (¬(gt ms x_1).snd = true ∧ (gt ms x).snd = true ∨
 ((gt ms x_1).snd = true ↔ (gt ms x).snd = true) ∧ x_1 < x)) →
 inI64 (x_1 + 1) ∧
 out = out ∧
 (gt ms x).fst = (gt ms x).fst ∧
 (gt ms x).snd = (gt ms x).snd ∧
 I_1 n (x_1 + 1) ∧ m_1 n (x_1 + 1) < m_1 n x_1)) ∧
 (¬x_1 < (↑ms.length : Int) →
 0 ≤ n ∧
 n < (↑out.length : Int) ∧
 inI64 (x + 1) ∧
 I (x + 1) (out.set n.toNat x) ∧
 m (x + 1) (out.set n.toNat x) < m x out)) ∧
 (¬x < (↑ms.length : Int) → out = (marksOrder ms).fst ∧ 0 = (marksOrder ms).snd))) :
 Con Try.prog f_ref_MarksOrder ref_MarksOrder_ct := ⟨ref_MarksOrder_ok.able rfl, fun x hx =>
 con_eq hC (L := []) (trivial) ref_MarksOrder_ok (ct := ref_MarksOrder_ct) (depth := 0) rfl (by kernel_rfl) x (H (@id ((List (Int × Bool))) x) (mpr' hx (by kernel_rfl))) (by kernel_rfl)⟩

theorem law_sameInts_vc (hC : Cons Try.prog [])
 (H : ∀ (a : List Int) (b : List Int), (fitL a ∧ fitL b) →
 ((↑a.length : Int) ≠ (↑b.length : Int) → false = bo (a = b)) ∧
 (¬(↑a.length : Int) ≠ (↑b.length : Int) →
 ∃ (I : Int → Prop),
 ∃ (m : Int → Nat),
 I 0 ∧
 ∀ (i : Int),
 I i →
 (i < (↑a.length : Int) →
 0 ≤ i ∧
 i < (↑a.length : Int) ∧
 0 ≤ i ∧
 i < (↑b.length : Int) ∧
 (gt a i ≠ gt b i → false = bo (a = b)) ∧
 (¬gt a i ≠ gt b i → inI64 (i + 1) ∧ I (i + 1) ∧ m (i + 1) < m i)) ∧
 (¬i < (↑a.length : Int) → true = bo (a = b)))) :
 Con Try.prog f_law_sameInts law_sameInts_ct := ⟨law_sameInts_ok.able rfl, fun x hx =>
 con_eq hC (L := []) (trivial) law_sameInts_ok (ct := law_sameInts_ct) (depth := 0) rfl (by kernel_rfl) x (H (@id (List Int × List Int) x).1 (@id (List Int × List Int) x).2 (mpr' hx (by kernel_rfl))) (by kernel_rfl)⟩

theorem law_MarksOrders_vc (hC : Cons Try.prog [(f_marks_Order, marks_Order_ct), (f_ref_MarksOrder, ref_MarksOrder_ct), (f_law_sameInts, law_sameInts_ct)])
 (H : ∀ (ms : List (Int × Bool)), (ms.length ≤ 140737488351232 ∧ ∀ (x : Int × Bool), List.Mem x ms → (IntKind.i64.min ≤ x.1 ∧ x.1 ≤ IntKind.i64.max) ∧ True) →
 True ∧
 True ∧
 (fitL (marksOrder ms).fst ∧ fitL (marksOrder ms).fst) ∧
 bo (bo ((marksOrder ms).fst = (marksOrder ms).fst) = true ∧ (marksOrder ms).snd = (marksOrder ms).snd) = true) :
 Con Try.prog f_law_MarksOrders law_MarksOrders_ct := ⟨law_MarksOrders_ok.able rfl, fun x hx =>
 con_eq hC (L := []) (trivial) law_MarksOrders_ok (ct := law_MarksOrders_ct) (depth := 0) rfl (by kernel_rfl) x (H (@id ((List (Int × Bool))) x) (mpr' hx (by kernel_rfl))) (by kernel_rfl)⟩

end Go.Proofs.Ytoiebdgnfjgcpaa
