/- The typed conditions of the functions, printed by a program of the claim's author; each gives the contract of its function. Conditions: none. -/
import Derived.Test.YtkemhbclkglmbaaGTopTyped
import Derived.Test.YtkemhbclkglmbaaVpA
import Derived.Test.YtkemhbclkglmbaaVpB
import Derived.Test.YtkemhbclkglmbaaVpSA
import Derived.Test.YtkemhbclkglmbaaVpY
import Derived.Test.YtkemhbclkglmbaaVpZ
import Derived.Test.YtkemhbclkglmbaaVpC
import Derived.Test.YtkemhbclkglmbaaVpE
import Derived.Test.YtkemhbclkglmbaaVpJ
import Derived.Test.YtkemhbclkglmbaaVpP
import Derived.Test.YtkemhbclkglmbaaVpCA
import Derived.Test.YtkemhbclkglmbaaVpCD
import Derived.Test.YtkemhbclkglmbaaVpD
import Derived.Test.YtkemhbclkglmbaaVpG
import Derived.Test.YtkemhbclkglmbaaVpRE
import Derived.Test.YtkemhbclkglmbaaVpTT
import Derived.Test.YtkemhbclkglmbaaVpI
import Derived.Test.YtkemhbclkglmbaaVpK
import Derived.Test.YtkemhbclkglmbaaRep
import Derived.Test.YtkemhbclkglmbaaBase
set_option linter.unusedVariables false
set_option linter.unusedSimpArgs false
set_option maxRecDepth 100000
namespace Go.Proofs.Ytkemhbclkglmbaa
open Go.Vc Go.Fu

theorem keep_Picked_vc (hC : Cons Try.prog [])
 (H : ∀ (a : Int) (n : Int), (pickPre (a, n)) →
 n ≠ 0 ∧ (a.tmod n < 0 → inI64 (a.tmod n + n) ∧ a.tmod n + n = pickOf a n) ∧ (¬a.tmod n < 0 → a.tmod n = pickOf a n)) :
 Con Try.prog f_keep_Picked keep_Picked_ct := ⟨keep_Picked_ok.able rfl, fun x hx =>
 con_eq hC (L := []) (trivial) keep_Picked_ok (ct := keep_Picked_ct) (depth := 0) rfl (by kernel_rfl) x (H (@id (Int × Int) x).1 (@id (Int × Int) x).2 (mpr' hx (by kernel_rfl))) (by kernel_rfl)⟩

theorem keep_Few_vc (hC : Cons Try.prog [(f_keep_Picked, keep_Picked_ct)])
 (H : ∀ (l : List Int) (n : Int), (fewPre (l, n)) →
 ∃ (I : List UInt8 → Int → Prop),
 ∃ (m : List UInt8 → Int → Nat),
 I [] 0 ∧
 ∀ (out : List UInt8) (i : Int),
 I out i →
 (i < (↑l.length : Int) ∧ i < n →
 0 ≤ i ∧
 i < (↑l.length : Int) ∧
 pickPre (gt l i, 2) ∧
 0 ≤ pickOf (gt l i) 2 ∧
 pickOf (gt l i) 2 < (↑2 : Int) ∧
 inI64 ((↑out.length : Int) + (↑(gt [[(97 : UInt8)], [98]] (pickOf (gt l i) 2)).length : Int)) ∧
 inI64 (i + 1) ∧
 I (out ++ gt [[(97 : UInt8)], [98]] (pickOf (gt l i) 2)) (i + 1) ∧
 m (out ++ gt [[(97 : UInt8)], [98]] (pickOf (gt l i) 2)) (i + 1) < m out i) ∧
 (¬(i < (↑l.length : Int) ∧ i < n) → out = fewOf l n)) :
 Con Try.prog f_keep_Few keep_Few_ct := ⟨keep_Few_ok.able rfl, fun x hx =>
 con_eq hC (L := []) (trivial) keep_Few_ok (ct := keep_Few_ct) (depth := 0) rfl (by kernel_rfl) x (H (@id (List Int × Int) x).1 (@id (List Int × Int) x).2 (mpr' hx (by kernel_rfl))) (by kernel_rfl)⟩

theorem find_fault_vc (hC : Cons Try.prog [])
 (H : ∀ (text : List UInt8) (find : List UInt8), (True) →
 (600 < (↑text.length : Int) ∨ 20 < (↑find.length : Int) → 1 = findFault text find) ∧
 (¬(600 < (↑text.length : Int) ∨ 20 < (↑find.length : Int)) →
 (find = [] → 4 = findFault text find) ∧ (¬find = [] → 0 = findFault text find))) :
 Con Try.prog f_find_fault find_fault_ct := ⟨find_fault_ok.able rfl, fun x hx =>
 con_eq hC (L := []) (trivial) find_fault_ok (ct := find_fault_ct) (depth := 0) rfl (by kernel_rfl) x (H (@id (List UInt8 × List UInt8) x).1 (@id (List UInt8 × List UInt8) x).2 (mpr' hx (by kernel_rfl))) (by kernel_rfl)⟩

theorem find_border_vc (hC : Cons Try.prog [])
 (H : ∀ (s : List UInt8), (s.length ≤ 1000000) →
 (↑s.length : Int) = (↑s.length : Int) ∧
 0 ≤ (↑s.length : Int) ∧
 8 * (↑s.length : Int).toNat ≤ 140737488355328 ∧
 ∃ (I : Int → Int → List Int → Prop),
 ∃ (m : Int → Int → List Int → Nat),
 I 0 1 (List.replicate (↑s.length : Int).toNat 0) ∧
 ∀ (n i : Int) (out : List Int),
 I n i out →
 (i < (↑s.length : Int) →
 ∃ (I_1 : Int → Prop),
 ∃ (m_1 : Int → Nat),
 (out = out ∧ I_1 n) ∧
 ∀ (n_1 : Int),
 I_1 n_1 →
 (0 < n_1 → 0 ≤ i) ∧
 (0 < n_1 → i < (↑s.length : Int)) ∧
 (0 < n_1 → 0 ≤ n_1) ∧
 (0 < n_1 → n_1 < (↑s.length : Int)) ∧
 (0 < n_1 ∧ gt s i ≠ gt s n_1 →
 inI64 (n_1 - 1) ∧
 0 ≤ n_1 - 1 ∧
 n_1 - 1 < (↑out.length : Int) ∧
 out = out ∧ I_1 (gt out (n_1 - 1)) ∧ m_1 (gt out (n_1 - 1)) < m_1 n_1) ∧
 (¬(0 < n_1 ∧ gt s i ≠ gt s n_1) →
 0 ≤ i ∧
 i < (↑s.length : Int) ∧
 0 ≤ n_1 ∧
 n_1 < (↑s.length : Int) ∧
 (gt s i = gt s n_1 → inI64 (n_1 + 1)) ∧
 0 ≤ i ∧
 i < (↑out.length : Int) ∧
 inI64 (i + 1) ∧
 I (iteP (gt s i = gt s n_1) (n_1 + 1) n_1) (i + 1)
 (out.set i.toNat
 (iteP (gt s i = gt s n_1) (n_1 + 1) n_1)) ∧
 m (iteP (gt s i = gt s n_1) (n_1 + 1) n_1) (i + 1)
 (out.set i.toNat
 (iteP (gt s i = gt s n_1) (n_1 + 1) n_1)) <
 m n i out)) ∧
 (¬i < (↑s.length : Int) → out = borders s)) :
 Con Try.prog f_find_border find_border_ct := ⟨find_border_ok.able rfl, fun x hx =>
 con_eq hC (L := []) (trivial) find_border_ok (ct := find_border_ct) (depth := 0) rfl (by kernel_rfl) x (H (@id (List UInt8) x) (mpr' hx (by kernel_rfl))) (by kernel_rfl)⟩

theorem find_In_vc (hC : Cons Try.prog [(f_find_border, find_border_ct)])
 (H : ∀ (text : List UInt8) (find : List UInt8), (text.length ≤ 100000 ∧ find.length ≤ 100000 ∧ find ≠ []) →
 find.length ≤ 1000000 ∧
 ∃ (I : Int → Int → List Int → Prop),
 ∃ (m : Int → Int → List Int → Nat),
 (borders find = borders find ∧ I 0 0 []) ∧
 ∀ (n x : Int) (out : List Int),
 I n x out →
 (x < (↑text.length : Int) →
 ∃ (I_1 : Int → Prop),
 ∃ (m_1 : Int → Nat),
 (borders find = borders find ∧ out = out ∧ I_1 n) ∧
 ∀ (n_1 : Int),
 I_1 n_1 →
 (0 < n_1 ∧ ¬n_1 = (↑find.length : Int) → 0 ≤ x) ∧
 (0 < n_1 ∧ ¬n_1 = (↑find.length : Int) → x < (↑text.length : Int)) ∧
 (0 < n_1 ∧ ¬n_1 = (↑find.length : Int) → 0 ≤ n_1) ∧
 (0 < n_1 ∧ ¬n_1 = (↑find.length : Int) → n_1 < (↑find.length : Int)) ∧
 (0 < n_1 ∧ (n_1 = (↑find.length : Int) ∨ gt text x ≠ gt find n_1) →
 inI64 (n_1 - 1) ∧
 0 ≤ n_1 - 1 ∧
 n_1 - 1 < (↑(borders find).length : Int) ∧
 borders find = borders find ∧
 out = out ∧
 I_1 (gt (borders find) (n_1 - 1)) ∧
 m_1 (gt (borders find) (n_1 - 1)) < m_1 n_1) ∧
 (¬(0 < n_1 ∧ (n_1 = (↑find.length : Int) ∨ gt text x ≠ gt find n_1)) →
 0 ≤ x ∧
 x < (↑text.length : Int) ∧
 0 ≤ n_1 ∧
 n_1 < (↑find.length : Int) ∧
 (gt text x = gt find n_1 → inI64 (n_1 + 1)) ∧
 (iteP (gt text x = gt find n_1) (n_1 + 1) n_1 = (↑find.length : Int) →
 inI64 (x + 1) ∧
 inI64 (x + 1 - iteP (gt text x = gt find n_1) (n_1 + 1) n_1) ∧
 (out.length + 1) * 8 ≤ 140737488355328 ∧
 inI64 (x + 1) ∧
 borders find = borders find ∧
 I (iteP (gt text x = gt find n_1) (n_1 + 1) n_1) (x + 1)
 (out ++
 [x + 1 -
 iteP (gt text x = gt find n_1) (n_1 + 1) n_1]) ∧
 m (iteP (gt text x = gt find n_1) (n_1 + 1) n_1) (x + 1)
 (out ++
 [x + 1 -
 iteP (gt text x = gt find n_1) (n_1 + 1)
 n_1]) <
 m n x out) ∧
 (¬iteP (gt text x = gt find n_1) (n_1 + 1) n_1 =
 (↑find.length : Int) →
 inI64 (x + 1) ∧
 borders find = borders find ∧
 I (iteP (gt text x = gt find n_1) (n_1 + 1) n_1) (x + 1) out ∧
 m (iteP (gt text x = gt find n_1) (n_1 + 1) n_1) (x + 1) out <
 m n x out))) ∧
 (¬x < (↑text.length : Int) → out = findAt text find)) :
 Con Try.prog f_find_In find_In_ct := ⟨find_In_ok.able rfl, fun x hx =>
 con_eq hC (L := []) (trivial) find_In_ok (ct := find_In_ct) (depth := 0) rfl (by kernel_rfl) x (H (@id (List UInt8 × List UInt8) x).1 (@id (List UInt8 × List UInt8) x).2 (mpr' hx (by kernel_rfl))) (by kernel_rfl)⟩

theorem find_All_vc (hC : Cons Try.prog [(f_find_fault, find_fault_ct), (f_find_In, find_In_ct)])
 (H : ∀ (text : List UInt8) (find : List UInt8), (True) →
 True ∧
 (findFault text find ≠ 0 → [] = (findAll text find).fst ∧ findFault text find = (findAll text find).snd) ∧
 (¬findFault text find ≠ 0 →
 (text.length ≤ 100000 ∧ find.length ≤ 100000 ∧ find ≠ []) ∧
 findAt text find = (findAll text find).fst ∧ 0 = (findAll text find).snd)) :
 Con Try.prog f_find_All find_All_ct := ⟨find_All_ok.able rfl, fun x hx =>
 con_eq hC (L := []) (trivial) find_All_ok (ct := find_All_ct) (depth := 0) rfl (by kernel_rfl) x (H (@id (List UInt8 × List UInt8) x).1 (@id (List UInt8 × List UInt8) x).2 (mpr' hx (by kernel_rfl))) (by kernel_rfl)⟩

theorem cursors_lo_vc (hC : Cons Try.prog [])
 (H : ∀ (c : Int × Int), (True) →
 min c.fst c.snd = cLo c) :
 Con Try.prog f_cursors_lo cursors_lo_ct := ⟨cursors_lo_ok.able rfl, fun x hx =>
 con_eq hC (L := []) (trivial) cursors_lo_ok (ct := cursors_lo_ct) (depth := 3) rfl (by kernel_rfl) x (H (@id ((Int × Int)) x) (mpr' hx (by kernel_rfl))) (by kernel_rfl)⟩

theorem cursors_hi_vc (hC : Cons Try.prog [])
 (H : ∀ (c : Int × Int), (True) →
 max c.fst c.snd = cHi c) :
 Con Try.prog f_cursors_hi cursors_hi_ct := ⟨cursors_hi_ok.able rfl, fun x hx =>
 con_eq hC (L := []) (trivial) cursors_hi_ok (ct := cursors_hi_ct) (depth := 3) rfl (by kernel_rfl) x (H (@id ((Int × Int)) x) (mpr' hx (by kernel_rfl))) (by kernel_rfl)⟩

theorem cursors_fault_vc (hC : Cons Try.prog [(f_cursors_lo, cursors_lo_ct), (f_cursors_hi, cursors_hi_ct)])
 (H : ∀ (size : Int) (l : List (Int × Int)), (inI64 size) →
 ((20 : Int) < (↑l.length : Int) → (1 : Int) = cursorsFault size l) ∧
 (¬(20 : Int) < (↑l.length : Int) →
 (size < (0 : Int) ∨ (600 : Int) < size → (2 : Int) = cursorsFault size l) ∧
 (¬(size < (0 : Int) ∨ (600 : Int) < size) →
 ∃ (I : Int → Int → Prop),
 ∃ (m : Int → Int → Nat),
 I (0 : Int) size ∧
 ∀ (x f : Int),
 I x f →
 (x < (↑l.length : Int) →
 (0 : Int) ≤ x ∧
 x < (↑l.length : Int) ∧
 True ∧
 (¬cLo ((gt l x).fst, (gt l x).snd) < (0 : Int) → True) ∧
 (cLo ((gt l x).fst, (gt l x).snd) < (0 : Int) ∨ f < cHi ((gt l x).fst, (gt l x).snd) →
 ((0 : Int) ≤ x → (2 : Int) = cursorsFault size l) ∧
 (¬(0 : Int) ≤ x → (0 : Int) = cursorsFault size l)) ∧
 (¬(cLo ((gt l x).fst, (gt l x).snd) < (0 : Int) ∨
 f < cHi ((gt l x).fst, (gt l x).snd)) →
 inI64 (x + (1 : Int)) ∧ I (x + (1 : Int)) f ∧ m (x + (1 : Int)) f < m x f)) ∧
 (¬x < (↑l.length : Int) →
 ((0 : Int) ≤ (-1 : Int) → (2 : Int) = cursorsFault size l) ∧
 (¬(0 : Int) ≤ (-1 : Int) → (0 : Int) = cursorsFault size l))))) :
 Con Try.prog f_cursors_fault cursors_fault_ct := ⟨cursors_fault_ok.able rfl, fun x hx =>
 con_eq hC (L := [(f_slices_ContainsFunc___api_Cursor_api_Cursor_, slices_ContainsFunc___api_Cursor_api_Cursor__fi), (f_slices_IndexFunc___api_Cursor_api_Cursor_, slices_IndexFunc___api_Cursor_api_Cursor__fi), (f_cursors_fault_1, cursors_fault_1_fi)]) (⟨slices_ContainsFunc___api_Cursor_api_Cursor__ok, slices_IndexFunc___api_Cursor_api_Cursor__ok, cursors_fault_1_ok, trivial⟩) cursors_fault_ok (ct := cursors_fault_ct) (depth := 4) rfl (by kernel_rfl) x (H (@id (Int × (List (Int × Int))) x).1 (@id (Int × (List (Int × Int))) x).2 (mpr' hx (by kernel_rfl))) (by kernel_rfl)⟩

theorem cursors_both_vc (hC : Cons Try.prog [(f_cursors_lo, cursors_lo_ct), (f_cursors_hi, cursors_hi_ct)])
 (H : ∀ (a : Int × Int) (b : Int × Int), (True) →
 True ∧
 True ∧
 True ∧
 (a.snd < a.fst ∨ a.fst = a.snd ∧ b.snd < b.fst →
 (max (cHi (a.fst, a.snd)) (cHi (b.fst, b.snd)), cLo (a.fst, a.snd)) = curBoth a b) ∧
 (¬(a.snd < a.fst ∨ a.fst = a.snd ∧ b.snd < b.fst) →
 (cLo (a.fst, a.snd), max (cHi (a.fst, a.snd)) (cHi (b.fst, b.snd))) = curBoth a b)) :
 Con Try.prog f_cursors_both cursors_both_ct := ⟨cursors_both_ok.able rfl, fun x hx =>
 con_eq hC (L := []) (trivial) cursors_both_ok (ct := cursors_both_ct) (depth := 0) rfl (by kernel_rfl) x (H (@id ((Int × Int) × (Int × Int)) x).1 (@id ((Int × Int) × (Int × Int)) x).2 (mpr' hx (by kernel_rfl))) (by kernel_rfl)⟩

theorem slices_Clone___api_Cursor_api_Cursor__vc (hC : Cons Try.prog [])
 (H : ∀ (s : List (Int × Int)), (fitM s) →
 ∀ (isnil : Prop),
 (isnil → (↑s.length : Int) = 0) → (isnil → [] = s) ∧ (¬isnil → (0 + s.length) * 16 ≤ 140737488355328 ∧ [] ++ s = s)) :
 Con Try.prog f_slices_Clone___api_Cursor_api_Cursor_ slices_Clone___api_Cursor_api_Cursor__ct := ⟨slices_Clone___api_Cursor_api_Cursor__ok.able rfl, fun x hx =>
 con_eq hC (L := []) (trivial) slices_Clone___api_Cursor_api_Cursor__ok (ct := slices_Clone___api_Cursor_api_Cursor__ct) (depth := 0) rfl (by kernel_rfl) x (H (@id ((List (Int × Int))) x) (mpr' hx (by kernel_rfl))) (by kernel_rfl)⟩

theorem cmp_isNaN_int__vc (hC : Cons Try.prog [])
 (H : ∀ (x : Int), (True) →
 bo (x ≠ x) = false) :
 Con Try.prog f_cmp_isNaN_int_ cmp_isNaN_int__ct := ⟨cmp_isNaN_int__ok.able rfl, fun x hx =>
 con_eq hC (L := []) (trivial) cmp_isNaN_int__ok (ct := cmp_isNaN_int__ct) (depth := 3) rfl (by kernel_rfl) x (H (@id (Int) x) (mpr' hx (by kernel_rfl))) (by kernel_rfl)⟩

theorem cmp_Compare_int__vc (hC : Cons Try.prog [(f_cmp_isNaN_int_, cmp_isNaN_int__ct)])
 (H : ∀ (x : Int) (y : Int), (True) →
 True ∧
 True ∧
 (false = true → (false = true → 0 = cmpI x y) ∧ (¬false = true → -1 = cmpI x y)) ∧
 (¬false = true →
 (false = true → 1 = cmpI x y) ∧
 (¬false = true → (x < y → -1 = cmpI x y) ∧ (¬x < y → (y < x → 1 = cmpI x y) ∧ (¬y < x → 0 = cmpI x y))))) :
 Con Try.prog f_cmp_Compare_int_ cmp_Compare_int__ct := ⟨cmp_Compare_int__ok.able rfl, fun x hx =>
 con_eq hC (L := []) (trivial) cmp_Compare_int__ok (ct := cmp_Compare_int__ct) (depth := 3) rfl (by kernel_rfl) x (H (@id (Int × Int) x).1 (@id (Int × Int) x).2 (mpr' hx (by kernel_rfl))) (by kernel_rfl)⟩

theorem cmp_Or_int__vc (hC : Cons Try.prog [])
 (H : ∀ (l : List Int), (fitL l) →
 ∃ (I : Int → Prop),
 ∃ (m : Int → Nat),
 I 0 ∧
 ∀ (x : Int),
 I x →
 (x < (↑l.length : Int) →
 0 ≤ x ∧
 x < (↑l.length : Int) ∧
 (gt l x ≠ 0 → gt l x = orL l) ∧ (¬gt l x ≠ 0 → inI64 (x + 1) ∧ I (x + 1) ∧ m (x + 1) < m x)) ∧
 (¬x < (↑l.length : Int) → 0 = orL l)) :
 Con Try.prog f_cmp_Or_int_ cmp_Or_int__ct := ⟨cmp_Or_int__ok.able rfl, fun x hx =>
 con_eq hC (L := []) (trivial) cmp_Or_int__ok (ct := cmp_Or_int__ct) (depth := 3) rfl (by kernel_rfl) x (H (@id (List Int) x) (mpr' hx (by kernel_rfl))) (by kernel_rfl)⟩

theorem cursors_norm_1_vc (hC : Cons Try.prog [(f_cmp_Compare_int_, cmp_Compare_int__ct), (f_cmp_Or_int_, cmp_Or_int__ct), (f_cursors_lo, cursors_lo_ct), (f_cursors_hi, cursors_hi_ct)])
 (H : ∀ (a : Int × Int) (b : Int × Int), (True ∧ True) →
 True ∧
 True ∧
 True ∧
 True ∧
 True ∧
 True ∧
 fitL [cmpI (cLo a) (cLo b), cmpI (cHi a) (cHi b)] ∧
 orL [cmpI (cLo a) (cLo b), cmpI (cHi a) (cHi b)] = curCf a b) :
 ConR Try.prog f_cursors_norm_1 cursors_norm_1_cr := ⟨cursors_norm_1_ok.able rfl, cursors_norm_1_cr_dec, fun k x hx ys hy =>
 conR_eq hC (L := []) (trivial) cursors_norm_1_ok (c := cursors_norm_1_cr) (depth := 4) rfl (m := 0) (fun _ => rfl) (by kernel_rfl) k x (H  (@id ((Int × Int) × (Int × Int)) x).1 (@id ((Int × Int) × (Int × Int)) x).2 (mpr' hx (by kernel_rfl))) (by kernel_rfl) ys hy⟩

theorem slices_insertionSortCmpFunc_api_Cursor__vc (hC : Cons Try.prog []) (hU_cursors_norm_1 : ConR Try.prog f_cursors_norm_1 cursors_norm_1_cr)
 (H : ∀ (ls : List (Int × Int)) (a : Int) (b : Int), (0 ≤ a ∧ a ≤ b ∧ b ≤ (↑ls.length : Int) ∧ okAll cur_q () ls) →
 inI64 (a + (1 : Int)) ∧
 ∃ (I : Int → List (Int × Int) → Prop),
 ∃ (m : Int → List (Int × Int) → Nat),
 I (a + (1 : Int)) ls ∧
 ∀ (i : Int) (data : List (Int × Int)),
 I i data →
 (i < b →
 ∃ (I_1 : Int → List (Int × Int) → Prop),
 ∃ (m_1 : Int → List (Int × Int) → Nat),
 I_1 i data ∧
 ∀ (j : Int) (data_1 : List (Int × Int)),
 I_1 j data_1 →
 (a < j → (0 : Int) ≤ j) ∧
 (a < j → j < (↑data_1.length : Int)) ∧
 (a < j → inI64 (j - (1 : Int))) ∧
 (a < j → (0 : Int) ≤ j - (1 : Int)) ∧
 (a < j → j - (1 : Int) < (↑data_1.length : Int)) ∧
 (a < j →
 (True ∧ True) ∧
 (a < j ∧ curCf (gt data_1 j) (gt data_1 (j - (1 : Int))) < (0 : Int) →
 inI64 (j - (1 : Int)) ∧
 inI64 (j - (1 : Int)) ∧
 (0 : Int) ≤ j - (1 : Int) ∧
 j - (1 : Int) < (↑data_1.length : Int) ∧
 (0 : Int) ≤ j ∧
 j < (↑data_1.length : Int) ∧
 (0 : Int) ≤ j ∧
 j < (↑data_1.length : Int) ∧
 (0 : Int) ≤ j - (1 : Int) ∧
 j - (1 : Int) <
 (↑(data_1.set j.toNat
 (gt data_1 (j - (1 : Int)))).length :
 Int) ∧
 inI64 (j - (1 : Int)) ∧
 I_1 (j - (1 : Int))
 ((data_1.set j.toNat
 (gt data_1 (j - (1 : Int)))).set
 (j - (1 : Int)).toNat (gt data_1 j)) ∧
 m_1 (j - (1 : Int))
 ((data_1.set j.toNat
 (gt data_1 (j - (1 : Int)))).set
 (j - (1 : Int)).toNat (gt data_1 j)) <
 m_1 j data_1) ∧
 (¬(a < j ∧ curCf (gt data_1 j) (gt data_1 (j - (1 : Int))) < (0 : Int)) →
 inI64 (i + (1 : Int)) ∧
 I (i + (1 : Int)) data_1 ∧ m (i + (1 : Int)) data_1 < m i data)) ∧
 (¬a < j →
 (a < j ∧ (0 : Int) < (0 : Int) →
 inI64 (j - (1 : Int)) ∧
 inI64 (j - (1 : Int)) ∧
 (0 : Int) ≤ j - (1 : Int) ∧
 j - (1 : Int) < (↑data_1.length : Int) ∧
 (0 : Int) ≤ j ∧
 j < (↑data_1.length : Int) ∧
 (0 : Int) ≤ j ∧
 j < (↑data_1.length : Int) ∧
 (0 : Int) ≤ j - (1 : Int) ∧
 j - (1 : Int) <
 (↑(data_1.set j.toNat
 (gt data_1 (j - (1 : Int)))).length :
 Int) ∧
 inI64 (j - (1 : Int)) ∧
 I_1 (j - (1 : Int))
 ((data_1.set j.toNat
 (gt data_1 (j - (1 : Int)))).set
 (j - (1 : Int)).toNat (gt data_1 j)) ∧
 m_1 (j - (1 : Int))
 ((data_1.set j.toNat
 (gt data_1 (j - (1 : Int)))).set
 (j - (1 : Int)).toNat (gt data_1 j)) <
 m_1 j data_1) ∧
 (¬(a < j ∧ (0 : Int) < (0 : Int)) →
 inI64 (i + (1 : Int)) ∧
 I (i + (1 : Int)) data_1 ∧ m (i + (1 : Int)) data_1 < m i data))) ∧
 (¬i < b → data = seg curLt ls a b)) :
 ConZ Try.prog f_slices_insertionSortCmpFunc_api_Cursor_ insCur_cz := ⟨trivial, by kernel_rfl, insCur_cz_dec, fun k ls a hx ver hv ys hy =>
 conZ_eq hC (L := [(f_cursors_norm_1, crFi cursors_norm_1_cr)]) (⟨cr_fok hU_cursors_norm_1, trivial⟩) slices_insertionSortCmpFunc_api_Cursor__ok (c := insCur_cz) (depth := 4) rfl (m := 4) (fun _ _ => rfl) (by kernel_rfl) k ls a (H  (@id (List (Int × Int)) ls) (@id (Int × Int) a).1 (@id (Int × Int) a).2 (mpr' hx (by kernel_rfl))) (by kernel_rfl) ver hv ys hy⟩

theorem slices_swapRangeCmpFunc_api_Cursor__vc (hC : Cons Try.prog [])
 (H : ∀ (ls : List (Int × Int)) (a : Int) (b : Int) (n : Int), (0 ≤ a ∧
 0 ≤ b ∧
 0 ≤ n ∧
 a + n ≤ (↑ls.length : Int) ∧
 b + n ≤ (↑ls.length : Int) ∧ (a + n ≤ b ∨ b + n ≤ a) ∧ (↑ls.length : Int) ≤ 140737488351232) →
 ∃ (I : Int → List (Int × Int) → Prop),
 ∃ (m : Int → List (Int × Int) → Nat),
 I 0 ls ∧
 ∀ (i : Int) (data : List (Int × Int)),
 I i data →
 (i < n →
 inI64 (a + i) ∧
 inI64 (b + i) ∧
 inI64 (b + i) ∧
 0 ≤ b + i ∧
 b + i < (↑data.length : Int) ∧
 inI64 (a + i) ∧
 0 ≤ a + i ∧
 a + i < (↑data.length : Int) ∧
 0 ≤ a + i ∧
 a + i < (↑data.length : Int) ∧
 0 ≤ b + i ∧
 b + i < (↑(data.set (a + i).toNat (gt data (b + i))).length : Int) ∧
 inI64 (i + 1) ∧
 I (i + 1)
 ((data.set (a + i).toNat (gt data (b + i))).set (b + i).toNat
 (gt data (a + i))) ∧
 m (i + 1)
 ((data.set (a + i).toNat (gt data (b + i))).set (b + i).toNat
 (gt data (a + i))) <
 m i data) ∧
 (¬i < n → data = swr ls a b n)) :
 ConZ Try.prog f_slices_swapRangeCmpFunc_api_Cursor_ swrCur_cz := ⟨trivial, by kernel_rfl, swrCur_cz_dec, fun k ls a hx ver hv ys hy =>
 conZ_eq hC (L := []) (trivial) slices_swapRangeCmpFunc_api_Cursor__ok (c := swrCur_cz) (depth := 4) rfl (m := 5) (fun _ _ => rfl) (by kernel_rfl) k ls a (H  (@id (List (Int × Int)) ls) (@id (Int × Int × Int) a).1 (@id (Int × Int × Int) a).2.1 (@id (Int × Int × Int) a).2.2 (mpr' hx (by kernel_rfl))) (by kernel_rfl) ver hv ys hy⟩

theorem slices_rotateCmpFunc_api_Cursor__vc (hC : Cons Try.prog []) (hU_slices_swapRangeCmpFunc_api_Cursor_ : ConZ Try.prog f_slices_swapRangeCmpFunc_api_Cursor_ swrCur_cz)
 (H : ∀ (ls : List (Int × Int)) (a : Int) (m : Int) (b : Int), (0 ≤ a ∧ a < m ∧ m < b ∧ b ≤ (↑ls.length : Int) ∧ (↑ls.length : Int) ≤ 140737488351232) →
 inI64 (m - a) ∧
 inI64 (b - m) ∧
 ∃ (I : Int → Int → List (Int × Int) → Prop),
 ∃ (m_1 : Int → Int → List (Int × Int) → Nat),
 I (m - a) (b - m) ls ∧
 ∀ (i j : Int) (data : List (Int × Int)),
 I i j data →
 (i ≠ j →
 (j < i →
 inI64 (m - i) ∧
 (0 ≤ m - i ∧
 0 ≤ m ∧
 0 ≤ j ∧
 m - i + j ≤ (↑data.length : Int) ∧
 m + j ≤ (↑data.length : Int) ∧
 (m - i + j ≤ m ∨ m + j ≤ m - i) ∧ (↑data.length : Int) ≤ 140737488351232) ∧
 inI64 (i - j) ∧
 I (i - j) j (swr data (m - i) m j) ∧ m_1 (i - j) j (swr data (m - i) m j) < m_1 i j data) ∧
 (¬j < i →
 inI64 (m - i) ∧
 inI64 (m + j) ∧
 inI64 (m + j - i) ∧
 (0 ≤ m - i ∧
 0 ≤ m + j - i ∧
 0 ≤ i ∧
 m - i + i ≤ (↑data.length : Int) ∧
 m + j - i + i ≤ (↑data.length : Int) ∧
 (m - i + i ≤ m + j - i ∨ m + j - i + i ≤ m - i) ∧
 (↑data.length : Int) ≤ 140737488351232) ∧
 inI64 (j - i) ∧
 I i (j - i) (swr data (m - i) (m + j - i) i) ∧
 m_1 i (j - i) (swr data (m - i) (m + j - i) i) < m_1 i j data)) ∧
 (¬i ≠ j →
 inI64 (m - i) ∧
 (0 ≤ m - i ∧
 0 ≤ m ∧
 0 ≤ i ∧
 m - i + i ≤ (↑data.length : Int) ∧
 m + i ≤ (↑data.length : Int) ∧
 (m - i + i ≤ m ∨ m + i ≤ m - i) ∧ (↑data.length : Int) ≤ 140737488351232) ∧
 swr data (m - i) m i = rotL ls a m b)) :
 ConZ Try.prog f_slices_rotateCmpFunc_api_Cursor_ rotCur_cz := ⟨trivial, by kernel_rfl, rotCur_cz_dec, fun k ls a hx ver hv ys hy =>
 conZ_eq hC (L := [(f_slices_swapRangeCmpFunc_api_Cursor_, czFi swrCur_cz)]) (⟨cz_fok hU_slices_swapRangeCmpFunc_api_Cursor_, trivial⟩) slices_rotateCmpFunc_api_Cursor__ok (c := rotCur_cz) (depth := 4) rfl (m := 5) (fun _ _ => rfl) (by kernel_rfl) k ls a (H  (@id (List (Int × Int)) ls) (@id (Int × Int × Int) a).1 (@id (Int × Int × Int) a).2.1 (@id (Int × Int × Int) a).2.2 (mpr' hx (by kernel_rfl))) (by kernel_rfl) ver hv ys hy⟩

theorem slices_symMergeCmpFunc_api_Cursor__vc (hC : Cons Try.prog []) (n : Nat) (hU_slices_rotateCmpFunc_api_Cursor_ : ConZ Try.prog f_slices_rotateCmpFunc_api_Cursor_ rotCur_cz) (hU_slices_symMergeCmpFunc_api_Cursor_ : ConZ Try.prog f_slices_symMergeCmpFunc_api_Cursor_ (symNCur_cz n)) (hU_cursors_norm_1 : ConR Try.prog f_cursors_norm_1 cursors_norm_1_cr)
 (H : ∀ (ls : List (Int × Int)) (a : Int) (m : Int) (b : Int), (symPre cur_q () ls a m b ∧ b - a < (↑n.succ : Int)) →
 inI64 (m - a) ∧
 (m - a = (1 : Int) →
 ∃ (I : Int → Int → Prop),
 ∃ (m_1 : Int → Int → Nat),
 (ls = ls ∧ I m b) ∧
 ∀ (i j : Int),
 I i j →
 (i < j →
 inI64 (i + j) ∧
 (0 : Int) ≤ (1 : Int) ∧
 inI64
 ((IntKind.u64.wrap (i + j)).fdiv ((2 : Int) ^ min (Int.toNat (1 : Int)) IntKind.u64.bits)) ∧
 (0 : Int) ≤
 (IntKind.u64.wrap (i + j)).fdiv ((2 : Int) ^ min (Int.toNat (1 : Int)) IntKind.u64.bits) ∧
 (IntKind.u64.wrap (i + j)).fdiv ((2 : Int) ^ min (Int.toNat (1 : Int)) IntKind.u64.bits) <
 (↑ls.length : Int) ∧
 (0 : Int) ≤ a ∧
 a < (↑ls.length : Int) ∧
 (True ∧ True) ∧
 (curCf
 (gt ls
 ((IntKind.u64.wrap (i + j)).fdiv
 ((2 : Int) ^ min (Int.toNat (1 : Int)) IntKind.u64.bits)))
 (gt ls a) <
 (0 : Int) →
 inI64
 ((IntKind.u64.wrap (i + j)).fdiv
 ((2 : Int) ^ min (Int.toNat (1 : Int)) IntKind.u64.bits) +
 (1 : Int)) ∧
 ls = ls ∧
 I
 ((IntKind.u64.wrap (i + j)).fdiv
 ((2 : Int) ^ min (Int.toNat (1 : Int)) IntKind.u64.bits) +
 (1 : Int))
 j ∧
 m_1
 ((IntKind.u64.wrap (i + j)).fdiv
 ((2 : Int) ^ min (Int.toNat (1 : Int)) IntKind.u64.bits) +
 (1 : Int))
 j <
 m_1 i j) ∧
 (¬curCf
 (gt ls
 ((IntKind.u64.wrap (i + j)).fdiv
 ((2 : Int) ^ min (Int.toNat (1 : Int)) IntKind.u64.bits)))
 (gt ls a) <
 (0 : Int) →
 ls = ls ∧
 I i
 ((IntKind.u64.wrap (i + j)).fdiv
 ((2 : Int) ^ min (Int.toNat (1 : Int)) IntKind.u64.bits)) ∧
 m_1 i
 ((IntKind.u64.wrap (i + j)).fdiv
 ((2 : Int) ^ min (Int.toNat (1 : Int)) IntKind.u64.bits)) <
 m_1 i j)) ∧
 (¬i < j →
 ∃ (I : Int → List (Int × Int) → Prop),
 ∃ (m : Int → List (Int × Int) → Nat),
 I a ls ∧
 ∀ (k : Int) (data : List (Int × Int)),
 I k data →
 inI64 (i - (1 : Int)) ∧
 (k < i - (1 : Int) →
 inI64 (k + (1 : Int)) ∧
 inI64 (k + (1 : Int)) ∧
 (0 : Int) ≤ k + (1 : Int) ∧
 k + (1 : Int) < (↑data.length : Int) ∧
 (0 : Int) ≤ k ∧
 k < (↑data.length : Int) ∧
 (0 : Int) ≤ k ∧
 k < (↑data.length : Int) ∧
 (0 : Int) ≤ k + (1 : Int) ∧
 k + (1 : Int) <
 (↑(data.set k.toNat (gt data (k + (1 : Int)))).length : Int) ∧
 inI64 (k + (1 : Int)) ∧
 I (k + (1 : Int))
 ((data.set k.toNat (gt data (k + (1 : Int)))).set
 (k + (1 : Int)).toNat (gt data k)) ∧
 m (k + (1 : Int))
 ((data.set k.toNat (gt data (k + (1 : Int)))).set
 (k + (1 : Int)).toNat (gt data k)) <
 m k data) ∧
 (¬k < i - (1 : Int) → data = seg curLt ls a b))) ∧
 (¬m - a = (1 : Int) →
 inI64 (b - m) ∧
 (b - m = (1 : Int) →
 ∃ (I : Int → Int → Prop),
 ∃ (m_1 : Int → Int → Nat),
 (ls = ls ∧ I a m) ∧
 ∀ (i j : Int),
 I i j →
 (i < j →
 inI64 (i + j) ∧
 (0 : Int) ≤ (1 : Int) ∧
 inI64
 ((IntKind.u64.wrap (i + j)).fdiv
 ((2 : Int) ^ min (Int.toNat (1 : Int)) IntKind.u64.bits)) ∧
 (0 : Int) ≤ m ∧
 m < (↑ls.length : Int) ∧
 (0 : Int) ≤
 (IntKind.u64.wrap (i + j)).fdiv
 ((2 : Int) ^ min (Int.toNat (1 : Int)) IntKind.u64.bits) ∧
 (IntKind.u64.wrap (i + j)).fdiv
 ((2 : Int) ^ min (Int.toNat (1 : Int)) IntKind.u64.bits) <
 (↑ls.length : Int) ∧
 (True ∧ True) ∧
 (¬curCf (gt ls m)
 (gt ls
 ((IntKind.u64.wrap (i + j)).fdiv
 ((2 : Int) ^ min (Int.toNat (1 : Int)) IntKind.u64.bits))) <
 (0 : Int) →
 inI64
 ((IntKind.u64.wrap (i + j)).fdiv
 ((2 : Int) ^ min (Int.toNat (1 : Int)) IntKind.u64.bits) +
 (1 : Int)) ∧
 ls = ls ∧
 I
 ((IntKind.u64.wrap (i + j)).fdiv
 ((2 : Int) ^ min (Int.toNat (1 : Int)) IntKind.u64.bits) +
 (1 : Int))
 j ∧
 m_1
 ((IntKind.u64.wrap (i + j)).fdiv
 ((2 : Int) ^ min (Int.toNat (1 : Int)) IntKind.u64.bits) +
 (1 : Int))
 j <
 m_1 i j) ∧
 (¬¬curCf (gt ls m)
 (gt ls
 ((IntKind.u64.wrap (i + j)).fdiv
 ((2 : Int) ^ min (Int.toNat (1 : Int)) IntKind.u64.bits))) <
 (0 : Int) →
 ls = ls ∧
 I i
 ((IntKind.u64.wrap (i + j)).fdiv
 ((2 : Int) ^ min (Int.toNat (1 : Int)) IntKind.u64.bits)) ∧
 m_1 i
 ((IntKind.u64.wrap (i + j)).fdiv
 ((2 : Int) ^ min (Int.toNat (1 : Int)) IntKind.u64.bits)) <
 m_1 i j)) ∧
 (¬i < j →
 ∃ (I : Int → List (Int × Int) → Prop),
 ∃ (m_2 : Int → List (Int × Int) → Nat),
 I m ls ∧
 ∀ (k : Int) (data : List (Int × Int)),
 I k data →
 (i < k →
 inI64 (k - (1 : Int)) ∧
 inI64 (k - (1 : Int)) ∧
 (0 : Int) ≤ k - (1 : Int) ∧
 k - (1 : Int) < (↑data.length : Int) ∧
 (0 : Int) ≤ k ∧
 k < (↑data.length : Int) ∧
 (0 : Int) ≤ k ∧
 k < (↑data.length : Int) ∧
 (0 : Int) ≤ k - (1 : Int) ∧
 k - (1 : Int) <
 (↑(data.set k.toNat (gt data (k - (1 : Int)))).length :
 Int) ∧
 inI64 (k - (1 : Int)) ∧
 I (k - (1 : Int))
 ((data.set k.toNat (gt data (k - (1 : Int)))).set
 (k - (1 : Int)).toNat (gt data k)) ∧
 m_2 (k - (1 : Int))
 ((data.set k.toNat (gt data (k - (1 : Int)))).set
 (k - (1 : Int)).toNat (gt data k)) <
 m_2 k data) ∧
 (¬i < k → data = seg curLt ls a b))) ∧
 (¬b - m = (1 : Int) →
 inI64 (a + b) ∧
 (0 : Int) ≤ (1 : Int) ∧
 inI64 ((IntKind.u64.wrap (a + b)).fdiv ((2 : Int) ^ min (Int.toNat (1 : Int)) IntKind.u64.bits)) ∧
 inI64 ((IntKind.u64.wrap (a + b)).fdiv ((2 : Int) ^ min (Int.toNat (1 : Int)) IntKind.u64.bits) + m) ∧
 ((IntKind.u64.wrap (a + b)).fdiv ((2 : Int) ^ min (Int.toNat (1 : Int)) IntKind.u64.bits) < m →
 inI64
 ((IntKind.u64.wrap (a + b)).fdiv ((2 : Int) ^ min (Int.toNat (1 : Int)) IntKind.u64.bits) +
 m -
 b)) ∧
 inI64
 ((IntKind.u64.wrap (a + b)).fdiv ((2 : Int) ^ min (Int.toNat (1 : Int)) IntKind.u64.bits) +
 m -
 (1 : Int)) ∧
 ∃ (I : Int → Int → Prop),
 ∃ (m_1 : Int → Int → Nat),
 (ls = ls ∧
 I
 (iteP
 ((IntKind.u64.wrap (a + b)).fdiv
 ((2 : Int) ^ min (Int.toNat (1 : Int)) IntKind.u64.bits) <
 m)
 ((IntKind.u64.wrap (a + b)).fdiv
 ((2 : Int) ^ min (Int.toNat (1 : Int)) IntKind.u64.bits) +
 m -
 b)
 a)
 (iteP
 ((IntKind.u64.wrap (a + b)).fdiv
 ((2 : Int) ^ min (Int.toNat (1 : Int)) IntKind.u64.bits) <
 m)
 ((IntKind.u64.wrap (a + b)).fdiv
 ((2 : Int) ^ min (Int.toNat (1 : Int)) IntKind.u64.bits))
 m)) ∧
 ∀ (start r : Int),
 I start r →
 (start < r →
 inI64 (start + r) ∧
 (0 : Int) ≤ (1 : Int) ∧
 inI64
 ((IntKind.u64.wrap (start + r)).fdiv
 ((2 : Int) ^ min (Int.toNat (1 : Int)) IntKind.u64.bits)) ∧
 inI64
 ((IntKind.u64.wrap (a + b)).fdiv
 ((2 : Int) ^ min (Int.toNat (1 : Int)) IntKind.u64.bits) +
 m -
 (1 : Int) -
 (IntKind.u64.wrap (start + r)).fdiv
 ((2 : Int) ^ min (Int.toNat (1 : Int)) IntKind.u64.bits)) ∧
 (0 : Int) ≤
 (IntKind.u64.wrap (a + b)).fdiv
 ((2 : Int) ^ min (Int.toNat (1 : Int)) IntKind.u64.bits) +
 m -
 (1 : Int) -
 (IntKind.u64.wrap (start + r)).fdiv
 ((2 : Int) ^ min (Int.toNat (1 : Int)) IntKind.u64.bits) ∧
 (IntKind.u64.wrap (a + b)).fdiv
 ((2 : Int) ^ min (Int.toNat (1 : Int)) IntKind.u64.bits) +
 m -
 (1 : Int) -
 (IntKind.u64.wrap (start + r)).fdiv
 ((2 : Int) ^ min (Int.toNat (1 : Int)) IntKind.u64.bits) <
 (↑ls.length : Int) ∧
 (0 : Int) ≤
 (IntKind.u64.wrap (start + r)).fdiv
 ((2 : Int) ^ min (Int.toNat (1 : Int)) IntKind.u64.bits) ∧
 (IntKind.u64.wrap (start + r)).fdiv
 ((2 : Int) ^ min (Int.toNat (1 : Int)) IntKind.u64.bits) <
 (↑ls.length : Int) ∧
 (True ∧ True) ∧
 (¬curCf
 (gt ls
 ((IntKind.u64.wrap (a + b)).fdiv
 ((2 : Int) ^
 min (Int.toNat (1 : Int))
 IntKind.u64.bits) +
 m -
 (1 : Int) -
 (IntKind.u64.wrap (start + r)).fdiv
 ((2 : Int) ^
 min (Int.toNat (1 : Int)) IntKind.u64.bits)))
 (gt ls
 ((IntKind.u64.wrap (start + r)).fdiv
 ((2 : Int) ^
 min (Int.toNat (1 : Int)) IntKind.u64.bits))) <
 (0 : Int) →
 inI64
 ((IntKind.u64.wrap (start + r)).fdiv
 ((2 : Int) ^
 min (Int.toNat (1 : Int)) IntKind.u64.bits) +
 (1 : Int)) ∧
 ls = ls ∧
 I
 ((IntKind.u64.wrap (start + r)).fdiv
 ((2 : Int) ^
 min (Int.toNat (1 : Int)) IntKind.u64.bits) +
 (1 : Int))
 r ∧
 m_1
 ((IntKind.u64.wrap (start + r)).fdiv
 ((2 : Int) ^
 min (Int.toNat (1 : Int))
 IntKind.u64.bits) +
 (1 : Int))
 r <
 m_1 start r) ∧
 (¬¬curCf
 (gt ls
 ((IntKind.u64.wrap (a + b)).fdiv
 ((2 : Int) ^
 min (Int.toNat (1 : Int))
 IntKind.u64.bits) +
 m -
 (1 : Int) -
 (IntKind.u64.wrap (start + r)).fdiv
 ((2 : Int) ^
 min (Int.toNat (1 : Int))
 IntKind.u64.bits)))
 (gt ls
 ((IntKind.u64.wrap (start + r)).fdiv
 ((2 : Int) ^
 min (Int.toNat (1 : Int))
 IntKind.u64.bits))) <
 (0 : Int) →
 ls = ls ∧
 I start
 ((IntKind.u64.wrap (start + r)).fdiv
 ((2 : Int) ^
 min (Int.toNat (1 : Int)) IntKind.u64.bits)) ∧
 m_1 start
 ((IntKind.u64.wrap (start + r)).fdiv
 ((2 : Int) ^
 min (Int.toNat (1 : Int)) IntKind.u64.bits)) <
 m_1 start r)) ∧
 (¬start < r →
 inI64
 ((IntKind.u64.wrap (a + b)).fdiv
 ((2 : Int) ^ min (Int.toNat (1 : Int)) IntKind.u64.bits) +
 m -
 start) ∧
 (start < m ∧
 m <
 (IntKind.u64.wrap (a + b)).fdiv
 ((2 : Int) ^ min (Int.toNat (1 : Int)) IntKind.u64.bits) +
 m -
 start →
 ((0 : Int) ≤ start ∧
 start < m ∧
 m <
 (IntKind.u64.wrap (a + b)).fdiv
 ((2 : Int) ^ min (Int.toNat (1 : Int)) IntKind.u64.bits) +
 m -
 start ∧
 (IntKind.u64.wrap (a + b)).fdiv
 ((2 : Int) ^ min (Int.toNat (1 : Int)) IntKind.u64.bits) +
 m -
 start ≤
 (↑ls.length : Int) ∧
 (↑ls.length : Int) ≤ (140737488351232 : Int)) ∧
 (a < start ∧
 start <
 (IntKind.u64.wrap (a + b)).fdiv
 ((2 : Int) ^ min (Int.toNat (1 : Int)) IntKind.u64.bits) →
 (symPre cur_q ()
 (rotL ls start m
 ((IntKind.u64.wrap (a + b)).fdiv
 ((2 : Int) ^
 min (Int.toNat (1 : Int)) IntKind.u64.bits) +
 m -
 start))
 a start
 ((IntKind.u64.wrap (a + b)).fdiv
 ((2 : Int) ^ min (Int.toNat (1 : Int)) IntKind.u64.bits)) ∧
 (IntKind.u64.wrap (a + b)).fdiv
 ((2 : Int) ^ min (Int.toNat (1 : Int)) IntKind.u64.bits) -
 a <
 (↑n : Int)) ∧
 ((IntKind.u64.wrap (a + b)).fdiv
 ((2 : Int) ^ min (Int.toNat (1 : Int)) IntKind.u64.bits) <
 (IntKind.u64.wrap (a + b)).fdiv
 ((2 : Int) ^
 min (Int.toNat (1 : Int)) IntKind.u64.bits) +
 m -
 start ∧
 (IntKind.u64.wrap (a + b)).fdiv
 ((2 : Int) ^
 min (Int.toNat (1 : Int)) IntKind.u64.bits) +
 m -
 start <
 b →
 (symPre cur_q ()
 (seg curLt
 (rotL ls start m
 ((IntKind.u64.wrap (a + b)).fdiv
 ((2 : Int) ^
 min (Int.toNat (1 : Int)) IntKind.u64.bits) +
 m -
 start))
 a
 ((IntKind.u64.wrap (a + b)).fdiv
 ((2 : Int) ^
 min (Int.toNat (1 : Int)) IntKind.u64.bits)))
 ((IntKind.u64.wrap (a + b)).fdiv
 ((2 : Int) ^
 min (Int.toNat (1 : Int)) IntKind.u64.bits))
 ((IntKind.u64.wrap (a + b)).fdiv
 ((2 : Int) ^
 min (Int.toNat (1 : Int)) IntKind.u64.bits) +
 m -
 start)
 b ∧
 b -
 (IntKind.u64.wrap (a + b)).fdiv
 ((2 : Int) ^
 min (Int.toNat (1 : Int)) IntKind.u64.bits) <
 (↑n : Int)) ∧
 seg curLt
 (seg curLt
 (rotL ls start m
 ((IntKind.u64.wrap (a + b)).fdiv
 ((2 : Int) ^
 min (Int.toNat (1 : Int)) IntKind.u64.bits) +
 m -
 start))
 a
 ((IntKind.u64.wrap (a + b)).fdiv
 ((2 : Int) ^
 min (Int.toNat (1 : Int)) IntKind.u64.bits)))
 ((IntKind.u64.wrap (a + b)).fdiv
 ((2 : Int) ^
 min (Int.toNat (1 : Int)) IntKind.u64.bits))
 b =
 seg curLt ls a b) ∧
 (¬((IntKind.u64.wrap (a + b)).fdiv
 ((2 : Int) ^
 min (Int.toNat (1 : Int)) IntKind.u64.bits) <
 (IntKind.u64.wrap (a + b)).fdiv
 ((2 : Int) ^
 min (Int.toNat (1 : Int)) IntKind.u64.bits) +
 m -
 start ∧
 (IntKind.u64.wrap (a + b)).fdiv
 ((2 : Int) ^
 min (Int.toNat (1 : Int)) IntKind.u64.bits) +
 m -
 start <
 b) →
 seg curLt
 (rotL ls start m
 ((IntKind.u64.wrap (a + b)).fdiv
 ((2 : Int) ^
 min (Int.toNat (1 : Int)) IntKind.u64.bits) +
 m -
 start))
 a
 ((IntKind.u64.wrap (a + b)).fdiv
 ((2 : Int) ^
 min (Int.toNat (1 : Int)) IntKind.u64.bits)) =
 seg curLt ls a b)) ∧
 (¬(a < start ∧
 start <
 (IntKind.u64.wrap (a + b)).fdiv
 ((2 : Int) ^ min (Int.toNat (1 : Int)) IntKind.u64.bits)) →
 ((IntKind.u64.wrap (a + b)).fdiv
 ((2 : Int) ^ min (Int.toNat (1 : Int)) IntKind.u64.bits) <
 (IntKind.u64.wrap (a + b)).fdiv
 ((2 : Int) ^
 min (Int.toNat (1 : Int)) IntKind.u64.bits) +
 m -
 start ∧
 (IntKind.u64.wrap (a + b)).fdiv
 ((2 : Int) ^
 min (Int.toNat (1 : Int)) IntKind.u64.bits) +
 m -
 start <
 b →
 (symPre cur_q ()
 (rotL ls start m
 ((IntKind.u64.wrap (a + b)).fdiv
 ((2 : Int) ^
 min (Int.toNat (1 : Int)) IntKind.u64.bits) +
 m -
 start))
 ((IntKind.u64.wrap (a + b)).fdiv
 ((2 : Int) ^ min (Int.toNat (1 : Int)) IntKind.u64.bits))
 ((IntKind.u64.wrap (a + b)).fdiv
 ((2 : Int) ^
 min (Int.toNat (1 : Int)) IntKind.u64.bits) +
 m -
 start)
 b ∧
 b -
 (IntKind.u64.wrap (a + b)).fdiv
 ((2 : Int) ^
 min (Int.toNat (1 : Int)) IntKind.u64.bits) <
 (↑n : Int)) ∧
 seg curLt
 (rotL ls start m
 ((IntKind.u64.wrap (a + b)).fdiv
 ((2 : Int) ^
 min (Int.toNat (1 : Int)) IntKind.u64.bits) +
 m -
 start))
 ((IntKind.u64.wrap (a + b)).fdiv
 ((2 : Int) ^ min (Int.toNat (1 : Int)) IntKind.u64.bits))
 b =
 seg curLt ls a b) ∧
 (¬((IntKind.u64.wrap (a + b)).fdiv
 ((2 : Int) ^ min (Int.toNat (1 : Int)) IntKind.u64.bits) <
 (IntKind.u64.wrap (a + b)).fdiv
 ((2 : Int) ^
 min (Int.toNat (1 : Int)) IntKind.u64.bits) +
 m -
 start ∧
 (IntKind.u64.wrap (a + b)).fdiv
 ((2 : Int) ^
 min (Int.toNat (1 : Int)) IntKind.u64.bits) +
 m -
 start <
 b) →
 rotL ls start m
 ((IntKind.u64.wrap (a + b)).fdiv
 ((2 : Int) ^
 min (Int.toNat (1 : Int)) IntKind.u64.bits) +
 m -
 start) =
 seg curLt ls a b))) ∧
 (¬(start < m ∧
 m <
 (IntKind.u64.wrap (a + b)).fdiv
 ((2 : Int) ^ min (Int.toNat (1 : Int)) IntKind.u64.bits) +
 m -
 start) →
 (a < start ∧
 start <
 (IntKind.u64.wrap (a + b)).fdiv
 ((2 : Int) ^ min (Int.toNat (1 : Int)) IntKind.u64.bits) →
 (symPre cur_q () ls a start
 ((IntKind.u64.wrap (a + b)).fdiv
 ((2 : Int) ^ min (Int.toNat (1 : Int)) IntKind.u64.bits)) ∧
 (IntKind.u64.wrap (a + b)).fdiv
 ((2 : Int) ^ min (Int.toNat (1 : Int)) IntKind.u64.bits) -
 a <
 (↑n : Int)) ∧
 ((IntKind.u64.wrap (a + b)).fdiv
 ((2 : Int) ^ min (Int.toNat (1 : Int)) IntKind.u64.bits) <
 (IntKind.u64.wrap (a + b)).fdiv
 ((2 : Int) ^
 min (Int.toNat (1 : Int)) IntKind.u64.bits) +
 m -
 start ∧
 (IntKind.u64.wrap (a + b)).fdiv
 ((2 : Int) ^
 min (Int.toNat (1 : Int)) IntKind.u64.bits) +
 m -
 start <
 b →
 (symPre cur_q ()
 (seg curLt ls a
 ((IntKind.u64.wrap (a + b)).fdiv
 ((2 : Int) ^
 min (Int.toNat (1 : Int)) IntKind.u64.bits)))
 ((IntKind.u64.wrap (a + b)).fdiv
 ((2 : Int) ^ min (Int.toNat (1 : Int)) IntKind.u64.bits))
 ((IntKind.u64.wrap (a + b)).fdiv
 ((2 : Int) ^
 min (Int.toNat (1 : Int)) IntKind.u64.bits) +
 m -
 start)
 b ∧
 b -
 (IntKind.u64.wrap (a + b)).fdiv
 ((2 : Int) ^
 min (Int.toNat (1 : Int)) IntKind.u64.bits) <
 (↑n : Int)) ∧
 seg curLt
 (seg curLt ls a
 ((IntKind.u64.wrap (a + b)).fdiv
 ((2 : Int) ^
 min (Int.toNat (1 : Int)) IntKind.u64.bits)))
 ((IntKind.u64.wrap (a + b)).fdiv
 ((2 : Int) ^ min (Int.toNat (1 : Int)) IntKind.u64.bits))
 b =
 seg curLt ls a b) ∧
 (¬((IntKind.u64.wrap (a + b)).fdiv
 ((2 : Int) ^ min (Int.toNat (1 : Int)) IntKind.u64.bits) <
 (IntKind.u64.wrap (a + b)).fdiv
 ((2 : Int) ^
 min (Int.toNat (1 : Int)) IntKind.u64.bits) +
 m -
 start ∧
 (IntKind.u64.wrap (a + b)).fdiv
 ((2 : Int) ^
 min (Int.toNat (1 : Int)) IntKind.u64.bits) +
 m -
 start <
 b) →
 seg curLt ls a
 ((IntKind.u64.wrap (a + b)).fdiv
 ((2 : Int) ^ min (Int.toNat (1 : Int)) IntKind.u64.bits)) =
 seg curLt ls a b)) ∧
 (¬(a < start ∧
 start <
 (IntKind.u64.wrap (a + b)).fdiv
 ((2 : Int) ^ min (Int.toNat (1 : Int)) IntKind.u64.bits)) →
 ((IntKind.u64.wrap (a + b)).fdiv
 ((2 : Int) ^ min (Int.toNat (1 : Int)) IntKind.u64.bits) <
 (IntKind.u64.wrap (a + b)).fdiv
 ((2 : Int) ^ min (Int.toNat (1 : Int)) IntKind.u64.bits) +
 m -
 start ∧
 (IntKind.u64.wrap (a + b)).fdiv
 ((2 : Int) ^ min (Int.toNat (1 : Int)) IntKind.u64.bits) +
 m -
 start <
 b →
 (symPre cur_q () ls
 ((IntKind.u64.wrap (a + b)).fdiv
 ((2 : Int) ^ min (Int.toNat (1 : Int)) IntKind.u64.bits))
 ((IntKind.u64.wrap (a + b)).fdiv
 ((2 : Int) ^
 min (Int.toNat (1 : Int)) IntKind.u64.bits) +
 m -
 start)
 b ∧
 b -
 (IntKind.u64.wrap (a + b)).fdiv
 ((2 : Int) ^ min (Int.toNat (1 : Int)) IntKind.u64.bits) <
 (↑n : Int)) ∧
 seg curLt ls
 ((IntKind.u64.wrap (a + b)).fdiv
 ((2 : Int) ^ min (Int.toNat (1 : Int)) IntKind.u64.bits))
 b =
 seg curLt ls a b) ∧
 (¬((IntKind.u64.wrap (a + b)).fdiv
 ((2 : Int) ^ min (Int.toNat (1 : Int)) IntKind.u64.bits) <
 (IntKind.u64.wrap (a + b)).fdiv
 ((2 : Int) ^
 min (Int.toNat (1 : Int)) IntKind.u64.bits) +
 m -
 start ∧
 (IntKind.u64.wrap (a + b)).fdiv
 ((2 : Int) ^
 min (Int.toNat (1 : Int)) IntKind.u64.bits) +
 m -
 start <
 b) →
 ls = seg curLt ls a b))))))) :
 ConZ Try.prog f_slices_symMergeCmpFunc_api_Cursor_ (symNCur_cz n.succ) := ⟨trivial, by kernel_rfl, (symNCur_cz_dec n.succ), fun k ls a hx ver hv ys hy =>
 conZ_eq hC (L := [(f_slices_rotateCmpFunc_api_Cursor_, czFi rotCur_cz), (f_slices_symMergeCmpFunc_api_Cursor_, czFi (symNCur_cz n)), (f_cursors_norm_1, crFi cursors_norm_1_cr)]) (⟨cz_fok hU_slices_rotateCmpFunc_api_Cursor_, cz_fok hU_slices_symMergeCmpFunc_api_Cursor_, cr_fok hU_cursors_norm_1, trivial⟩) slices_symMergeCmpFunc_api_Cursor__ok (c := (symNCur_cz n.succ)) (depth := 4) rfl (m := 5) (fun _ _ => rfl) (by kernel_rfl) k ls a (H  (@id (List (Int × Int)) ls) (@id (Int × Int × Int) a).1 (@id (Int × Int × Int) a).2.1 (@id (Int × Int × Int) a).2.2 (mpr' hx (by kernel_rfl))) (by kernel_rfl) ver hv ys hy⟩

theorem slices_stableCmpFunc_api_Cursor__vc (hC : Cons Try.prog []) (hU_slices_insertionSortCmpFunc_api_Cursor_ : ConZ Try.prog f_slices_insertionSortCmpFunc_api_Cursor_ insCur_cz) (hU_slices_symMergeCmpFunc_api_Cursor_ : ConZ Try.prog f_slices_symMergeCmpFunc_api_Cursor_ symCur_cz)
 (H : ∀ (ls : List (Int × Int)) (n : Int), (n = (↑ls.length : Int) ∧ okAll cur_q () ls) →
 ∃ (I : Int → Int → List (Int × Int) → Prop),
 ∃ (m : Int → Int → List (Int × Int) → Nat),
 I 0 20 ls ∧
 ∀ (a b : Int) (data : List (Int × Int)),
 I a b data →
 (b ≤ n →
 (0 ≤ a ∧ a ≤ b ∧ b ≤ (↑data.length : Int) ∧ okAll cur_q () data) ∧
 inI64 (b + 20) ∧ I b (b + 20) (seg curLt data a b) ∧ m b (b + 20) (seg curLt data a b) < m a b data) ∧
 (¬b ≤ n →
 (0 ≤ a ∧ a ≤ n ∧ n ≤ (↑data.length : Int) ∧ okAll cur_q () data) ∧
 ∃ (I : Int → List (Int × Int) → Prop),
 ∃ (m : Int → List (Int × Int) → Nat),
 I 20 (seg curLt data a n) ∧
 ∀ (blockSize : Int) (data : List (Int × Int)),
 I blockSize data →
 (blockSize < n →
 inI64 (2 * blockSize) ∧
 ∃ (I_1 : Int → Int → List (Int × Int) → Prop),
 ∃ (m_1 : Int → Int → List (Int × Int) → Nat),
 I_1 0 (2 * blockSize) data ∧
 ∀ (a b : Int) (data_1 : List (Int × Int)),
 I_1 a b data_1 →
 (b ≤ n →
 inI64 (a + blockSize) ∧
 symPre cur_q () data_1 a (a + blockSize) b ∧
 inI64 (2 * blockSize) ∧
 inI64 (b + 2 * blockSize) ∧
 I_1 b (b + 2 * blockSize) (seg curLt data_1 a b) ∧
 m_1 b (b + 2 * blockSize) (seg curLt data_1 a b) <
 m_1 a b data_1) ∧
 (¬b ≤ n →
 inI64 (a + blockSize) ∧
 (a + blockSize < n →
 symPre cur_q () data_1 a (a + blockSize) n ∧
 inI64 (blockSize * 2) ∧
 I (blockSize * 2) (seg curLt data_1 a n) ∧
 m (blockSize * 2) (seg curLt data_1 a n) < m blockSize data) ∧
 (¬a + blockSize < n →
 inI64 (blockSize * 2) ∧
 I (blockSize * 2) data_1 ∧
 m (blockSize * 2) data_1 < m blockSize data))) ∧
 (¬blockSize < n → data = stab curLt ls))) :
 ConZ Try.prog f_slices_stableCmpFunc_api_Cursor_ stbCur_cz := ⟨trivial, by kernel_rfl, stbCur_cz_dec, fun k ls a hx ver hv ys hy =>
 conZ_eq hC (L := [(f_slices_insertionSortCmpFunc_api_Cursor_, czFi insCur_cz), (f_slices_symMergeCmpFunc_api_Cursor_, czFi symCur_cz)]) (⟨cz_fok hU_slices_insertionSortCmpFunc_api_Cursor_, cz_fok hU_slices_symMergeCmpFunc_api_Cursor_, trivial⟩) slices_stableCmpFunc_api_Cursor__ok (c := stbCur_cz) (depth := 4) rfl (m := 3) (fun _ _ => rfl) (by kernel_rfl) k ls a (H  (@id (List (Int × Int)) ls) (@id (Int) a) (mpr' hx (by kernel_rfl))) (by kernel_rfl) ver hv ys hy⟩

theorem slices_SortStableFunc___api_Cursor_api_Cursor__vc (hC : Cons Try.prog []) (hU_slices_stableCmpFunc_api_Cursor_ : ConZ Try.prog f_slices_stableCmpFunc_api_Cursor_ stbCur_cz)
 (H : ∀ (ls : List (Int × Int)), (okAll cur_q () ls) →
 ((↑ls.length : Int) = (↑ls.length : Int) ∧ okAll cur_q () ls) ∧ stab curLt ls = stab curLt ls) :
 ConZ Try.prog f_slices_SortStableFunc___api_Cursor_api_Cursor_ sstCur_cz := ⟨trivial, by kernel_rfl, sstCur_cz_dec, fun k ls a hx ver hv ys hy =>
 conZ_eq hC (L := [(f_slices_stableCmpFunc_api_Cursor_, czFi stbCur_cz)]) (⟨cz_fok hU_slices_stableCmpFunc_api_Cursor_, trivial⟩) slices_SortStableFunc___api_Cursor_api_Cursor__ok (c := sstCur_cz) (depth := 4) rfl (m := 2) (fun _ _ => rfl) (by kernel_rfl) k ls a (H  (@id (List (Int × Int)) ls)  (mpr' hx (by kernel_rfl))) (by kernel_rfl) ver hv ys hy⟩

theorem cursors_norm_vc (hC : Cons Try.prog [(f_cursors_lo, cursors_lo_ct), (f_cursors_hi, cursors_hi_ct), (f_cursors_both, cursors_both_ct), (f_slices_Clone___api_Cursor_api_Cursor_, slices_Clone___api_Cursor_api_Cursor__ct)]) (hU_slices_SortStableFunc___api_Cursor_api_Cursor_ : ConZ Try.prog f_slices_SortStableFunc___api_Cursor_api_Cursor_ sstCur_cz)
 (H : ∀ (l : List (Int × Int)), (few l) →
 fitM l ∧
 okAll cur_q () l ∧
 ∃ (I : Int → List (Int × Int) → Prop),
 ∃ (m : Int → List (Int × Int) → Nat),
 (stab curLt l = stab curLt l ∧ I 0 []) ∧
 ∀ (x : Int) (out : List (Int × Int)),
 I x out →
 (x < (↑(stab curLt l).length : Int) →
 0 ≤ x ∧
 x < (↑(stab curLt l).length : Int) ∧
 (0 < (↑out.length : Int) →
 inI64 ((↑out.length : Int) - 1) ∧
 0 ≤ (↑out.length : Int) - 1 ∧
 (↑out.length : Int) - 1 < (↑out.length : Int) ∧
 True ∧
 True ∧
 (¬cLo
 ((gt out ((↑out.length : Int) - 1)).fst,
 (gt out ((↑out.length : Int) - 1)).snd) =
 cHi
 ((gt out ((↑out.length : Int) - 1)).fst,
 (gt out ((↑out.length : Int) - 1)).snd) →
 True) ∧
 (¬cLo
 ((gt out ((↑out.length : Int) - 1)).fst,
 (gt out ((↑out.length : Int) - 1)).snd) =
 cHi
 ((gt out ((↑out.length : Int) - 1)).fst,
 (gt out ((↑out.length : Int) - 1)).snd) →
 True) ∧
 True ∧
 True ∧
 (¬cLo ((gt (stab curLt l) x).fst, (gt (stab curLt l) x).snd) <
 cHi
 ((gt out ((↑out.length : Int) - 1)).fst,
 (gt out ((↑out.length : Int) - 1)).snd) →
 True) ∧
 (¬cLo ((gt (stab curLt l) x).fst, (gt (stab curLt l) x).snd) <
 cHi
 ((gt out ((↑out.length : Int) - 1)).fst,
 (gt out ((↑out.length : Int) - 1)).snd) →
 True) ∧
 (cLo ((gt (stab curLt l) x).fst, (gt (stab curLt l) x).snd) <
 cHi
 ((gt out ((↑out.length : Int) - 1)).fst,
 (gt out ((↑out.length : Int) - 1)).snd) ∨
 cLo ((gt (stab curLt l) x).fst, (gt (stab curLt l) x).snd) =
 cHi
 ((gt out ((↑out.length : Int) - 1)).fst,
 (gt out ((↑out.length : Int) - 1)).snd) ∧
 (cLo
 ((gt out ((↑out.length : Int) - 1)).fst,
 (gt out ((↑out.length : Int) - 1)).snd) =
 cHi
 ((gt out ((↑out.length : Int) - 1)).fst,
 (gt out ((↑out.length : Int) - 1)).snd) ∨
 cLo ((gt (stab curLt l) x).fst, (gt (stab curLt l) x).snd) =
 cHi
 ((gt (stab curLt l) x).fst, (gt (stab curLt l) x).snd)) →
 inI64 ((↑out.length : Int) - 1) ∧
 True ∧
 0 ≤ (↑out.length : Int) - 1 ∧
 (↑out.length : Int) - 1 < (↑out.length : Int) ∧
 inI64 (x + 1) ∧
 stab curLt l = stab curLt l ∧
 I (x + 1)
 (out.set ((↑out.length : Int) - 1).toNat
 ((curBoth
 ((gt out ((↑out.length : Int) - 1)).fst,
 (gt out ((↑out.length : Int) - 1)).snd)
 ((gt (stab curLt l) x).fst,
 (gt (stab curLt l) x).snd)).fst,
 (curBoth
 ((gt out ((↑out.length : Int) - 1)).fst,
 (gt out ((↑out.length : Int) - 1)).snd)
 ((gt (stab curLt l) x).fst,
 (gt (stab curLt l) x).snd)).snd)) ∧
 m (x + 1)
 (out.set ((↑out.length : Int) - 1).toNat
 ((curBoth
 ((gt out ((↑out.length : Int) - 1)).fst,
 (gt out ((↑out.length : Int) - 1)).snd)
 ((gt (stab curLt l) x).fst,
 (gt (stab curLt l) x).snd)).fst,
 (curBoth
 ((gt out ((↑out.length : Int) - 1)).fst,
 (gt out ((↑out.length : Int) - 1)).snd)
 ((gt (stab curLt l) x).fst,
 (gt (stab curLt l) x).snd)).snd)) <
 m x out) ∧
 (¬(cLo ((gt (stab curLt l) x).fst, (gt (stab curLt l) x).snd) <
 cHi
 ((gt out ((↑out.length : Int) - 1)).fst,
 (gt out ((↑out.length : Int) - 1)).snd) ∨
 cLo ((gt (stab curLt l) x).fst, (gt (stab curLt l) x).snd) =
 cHi
 ((gt out ((↑out.length : Int) - 1)).fst,
 (gt out ((↑out.length : Int) - 1)).snd) ∧
 (cLo
 ((gt out ((↑out.length : Int) - 1)).fst,
 (gt out ((↑out.length : Int) - 1)).snd) =
 cHi
 ((gt out ((↑out.length : Int) - 1)).fst,
 (gt out ((↑out.length : Int) - 1)).snd) ∨
 cLo ((gt (stab curLt l) x).fst, (gt (stab curLt l) x).snd) =
 cHi
 ((gt (stab curLt l) x).fst,
 (gt (stab curLt l) x).snd))) →
 (out.length + 1) * 16 ≤ 140737488355328 ∧
 inI64 (x + 1) ∧
 stab curLt l = stab curLt l ∧
 I (x + 1)
 (out ++
 [((gt (stab curLt l) x).fst,
 (gt (stab curLt l) x).snd)]) ∧
 m (x + 1)
 (out ++
 [((gt (stab curLt l) x).fst,
 (gt (stab curLt l) x).snd)]) <
 m x out)) ∧
 (¬0 < (↑out.length : Int) →
 (out.length + 1) * 16 ≤ 140737488355328 ∧
 inI64 (x + 1) ∧
 stab curLt l = stab curLt l ∧
 I (x + 1) (out ++ [((gt (stab curLt l) x).fst, (gt (stab curLt l) x).snd)]) ∧
 m (x + 1) (out ++ [((gt (stab curLt l) x).fst, (gt (stab curLt l) x).snd)]) <
 m x out)) ∧
 (¬x < (↑(stab curLt l).length : Int) → out = curNorm l)) :
 Con Try.prog f_cursors_norm cursors_norm_ct := ⟨cursors_norm_ok.able rfl, fun x hx =>
 con_eq hC (L := [(f_slices_SortStableFunc___api_Cursor_api_Cursor_, czFi sstCur_cz)]) (⟨cz_fok hU_slices_SortStableFunc___api_Cursor_api_Cursor_, trivial⟩) cursors_norm_ok (ct := cursors_norm_ct) (depth := 4) rfl (by kernel_rfl) x (H (@id ((List (Int × Int))) x) (mpr' hx (by kernel_rfl))) (by kernel_rfl)⟩

theorem cursors_Type_vc (hC : Cons Try.prog [(f_cursors_fault, cursors_fault_ct), (f_cursors_norm, cursors_norm_ct), (f_cursors_lo, cursors_lo_ct), (f_cursors_hi, cursors_hi_ct)])
 (H : ∀ (text : List UInt8) (l : List (Int × Int)) (put : List UInt8), (fitS text ∧ fitS put) →
 inI64 (↑text.length : Int) ∧
 (cursorsFault (↑text.length : Int) l ≠ 0 →
 [] = (cursorsType text l put).fst ∧
 [] = (cursorsType text l put).snd.fst ∧
 cursorsFault (↑text.length : Int) l = (cursorsType text l put).snd.snd) ∧
 (¬cursorsFault (↑text.length : Int) l ≠ 0 →
 few l ∧
 ∃ (I : List UInt8 → Int → Int → List (Int × Int) → Prop),
 ∃ (m : List UInt8 → Int → Int → List (Int × Int) → Nat),
 (curNorm l = curNorm l ∧ I [] 0 0 []) ∧
 ∀ (made : List UInt8) (at_ x : Int) (out : List (Int × Int)),
 I made at_ x out →
 (x < (↑(curNorm l).length : Int) →
 0 ≤ x ∧
 x < (↑(curNorm l).length : Int) ∧
 True ∧
 0 ≤ at_ ∧
 at_ ≤ cLo ((gt (curNorm l) x).fst, (gt (curNorm l) x).snd) ∧
 cLo ((gt (curNorm l) x).fst, (gt (curNorm l) x).snd) ≤ (↑text.length : Int) ∧
 inI64
 ((↑(List.drop at_.toNat
 (List.take (cLo ((gt (curNorm l) x).fst, (gt (curNorm l) x).snd)).toNat
 text)).length :
 Int) +
 (↑put.length : Int)) ∧
 inI64
 ((↑made.length : Int) +
 (↑(List.drop at_.toNat
 (List.take
 (cLo ((gt (curNorm l) x).fst, (gt (curNorm l) x).snd)).toNat
 text) ++
 put).length :
 Int)) ∧
 True ∧
 (600 <
 (↑(made ++
 (List.drop at_.toNat
 (List.take
 (cLo ((gt (curNorm l) x).fst, (gt (curNorm l) x).snd)).toNat
 text) ++
 put)).length :
 Int) →
 [] = (cursorsType text l put).fst ∧
 [] = (cursorsType text l put).snd.fst ∧
 1 = (cursorsType text l put).snd.snd) ∧
 (¬600 <
 (↑(made ++
 (List.drop at_.toNat
 (List.take
 (cLo
 ((gt (curNorm l) x).fst,
 (gt (curNorm l) x).snd)).toNat
 text) ++
 put)).length :
 Int) →
 (out.length + 1) * 16 ≤ 140737488355328 ∧
 inI64 (x + 1) ∧
 curNorm l = curNorm l ∧
 I
 (made ++
 (List.drop at_.toNat
 (List.take
 (cLo
 ((gt (curNorm l) x).fst,
 (gt (curNorm l) x).snd)).toNat
 text) ++
 put))
 (cHi ((gt (curNorm l) x).fst, (gt (curNorm l) x).snd)) (x + 1)
 (out ++
 [((↑(made ++
 (List.drop at_.toNat
 (List.take
 (cLo
 ((gt (curNorm l) x).fst,
 (gt (curNorm l) x).snd)).toNat
 text) ++
 put)).length :
 Int),
 (↑(made ++
 (List.drop at_.toNat
 (List.take
 (cLo
 ((gt (curNorm l) x).fst,
 (gt (curNorm l) x).snd)).toNat
 text) ++
 put)).length :
 Int))]) ∧
 m
 (made ++
 (List.drop at_.toNat
 (List.take
 (cLo
 ((gt (curNorm l) x).fst,
 (gt (curNorm l) x).snd)).toNat
 text) ++
 put))
 (cHi ((gt (curNorm l) x).fst, (gt (curNorm l) x).snd)) (x + 1)
 (out ++
 [((↑(made ++
 (List.drop at_.toNat
 (List.take
 (cLo
 ((gt (curNorm l) x).fst,
 (gt (curNorm l) x).snd)).toNat
 text) ++
 put)).length :
 Int),
 (↑(made ++
 (List.drop at_.toNat
 (List.take
 (cLo
 ((gt (curNorm l) x).fst,
 (gt (curNorm l) x).snd)).toNat
 text) ++
 put)).length :
 Int))]) <
 m made at_ x out)) ∧
 (¬x < (↑(curNorm l).length : Int) →
 0 ≤ at_ ∧
 at_ ≤ (↑text.length : Int) ∧
 (↑text.length : Int) ≤ (↑text.length : Int) ∧
 inI64
 ((↑made.length : Int) +
 (↑(List.drop at_.toNat (List.take (↑text.length : Int).toNat text)).length : Int)) ∧
 (600 <
 (↑(made ++ List.drop at_.toNat (List.take (↑text.length : Int).toNat text)).length :
 Int) →
 [] = (cursorsType text l put).fst ∧
 [] = (cursorsType text l put).snd.fst ∧ 1 = (cursorsType text l put).snd.snd) ∧
 (¬600 <
 (↑(made ++
 List.drop at_.toNat (List.take (↑text.length : Int).toNat text)).length :
 Int) →
 made ++ List.drop at_.toNat (List.take (↑text.length : Int).toNat text) =
 (cursorsType text l put).fst ∧
 out = (cursorsType text l put).snd.fst ∧ 0 = (cursorsType text l put).snd.snd)))) :
 Con Try.prog f_cursors_Type cursors_Type_ct := ⟨cursors_Type_ok.able rfl, fun x hx =>
 con_eq hC (L := []) (trivial) cursors_Type_ok (ct := cursors_Type_ct) (depth := 0) rfl (by kernel_rfl) x (H (@id (List UInt8 × (List (Int × Int)) × List UInt8) x).1 (@id (List UInt8 × (List (Int × Int)) × List UInt8) x).2.1 (@id (List UInt8 × (List (Int × Int)) × List UInt8) x).2.2 (mpr' hx (by kernel_rfl))) (by kernel_rfl)⟩

theorem top_TopTyped_vc (hC : Cons Try.prog [(f_keep_Few, keep_Few_ct), (f_find_All, find_All_ct), (f_find_Replace, find_Replace_ct), (f_cursors_Type, cursors_Type_ct)])
 (H : ∀ (l : List Int) (m : List Int) (o : List Int), ((l.length ≤ 140737488351232 ∧ ∀ (x : Int), List.Mem x l → IntKind.i64.min ≤ x ∧ x ≤ IntKind.i64.max) ∧
 (m.length ≤ 140737488351232 ∧ ∀ (x : Int), List.Mem x m → IntKind.i64.min ≤ x ∧ x ≤ IntKind.i64.max) ∧
 o.length ≤ 140737488351232 ∧ ∀ (x : Int), List.Mem x o → IntKind.i64.min ≤ x ∧ x ≤ IntKind.i64.max) →
 fewPre (l, 60) ∧
 fewPre (m, 2) ∧
 inI64 ((↑(List.length (fewOf m 2)) : Int) + (↑1 : Int)) ∧
 fewPre (o, 3) ∧
 True ∧
 fitS (fewOf o 3) ∧
 ((findAll (fewOf l 60) (fewOf m 2 ++ [97])).snd ≠ 0 ∨
 (findReplace (fewOf l 60) (fewOf m 2 ++ [97]) (fewOf o 3)).snd.snd ≠ 0 →
 false = true) ∧
 (¬((findAll (fewOf l 60) (fewOf m 2 ++ [97])).snd ≠ 0 ∨
 (findReplace (fewOf l 60) (fewOf m 2 ++ [97]) (fewOf o 3)).snd.snd ≠ 0) →
 ∃ (I : Int → Int → List (Int × Int) → Prop),
 ∃ (m_1 : Int → Int → List (Int × Int) → Nat),
 ((findAll (fewOf l 60) (fewOf m 2 ++ [97])).fst = (findAll (fewOf l 60) (fewOf m 2 ++ [97])).fst ∧
 I 0 0 []) ∧
 ∀ (endQ i : Int) (cs : List (Int × Int)),
 I endQ i cs →
 (i < (↑(findAll (fewOf l 60) (fewOf m 2 ++ [97])).fst.length : Int) →
 0 ≤ i ∧
 i < (↑(findAll (fewOf l 60) (fewOf m 2 ++ [97])).fst.length : Int) ∧
 (endQ ≤ gt (findAll (fewOf l 60) (fewOf m 2 ++ [97])).fst i →
 0 ≤ i ∧
 i < (↑(findAll (fewOf l 60) (fewOf m 2 ++ [97])).fst.length : Int) ∧
 0 ≤ i ∧
 i < (↑(findAll (fewOf l 60) (fewOf m 2 ++ [97])).fst.length : Int) ∧
 inI64
 (gt (findAll (fewOf l 60) (fewOf m 2 ++ [97])).fst i +
 (↑(fewOf m 2 ++ [97]).length : Int)) ∧
 (cs.length + 1) * 16 ≤ 140737488355328 ∧
 0 ≤ i ∧
 i < (↑(findAll (fewOf l 60) (fewOf m 2 ++ [97])).fst.length : Int) ∧
 inI64
 (gt (findAll (fewOf l 60) (fewOf m 2 ++ [97])).fst i +
 (↑(fewOf m 2 ++ [97]).length : Int)) ∧
 inI64 (i + 1) ∧
 (findAll (fewOf l 60) (fewOf m 2 ++ [97])).fst =
 (findAll (fewOf l 60) (fewOf m 2 ++ [97])).fst ∧
 I
 (gt (findAll (fewOf l 60) (fewOf m 2 ++ [97])).fst i +
 (↑(fewOf m 2 ++ [97]).length : Int))
 (i + 1)
 (cs ++
 [(gt (findAll (fewOf l 60) (fewOf m 2 ++ [97])).fst i,
 gt (findAll (fewOf l 60) (fewOf m 2 ++ [97])).fst
 i +
 (↑(fewOf m 2 ++ [97]).length : Int))]) ∧
 m_1
 (gt (findAll (fewOf l 60) (fewOf m 2 ++ [97])).fst i +
 (↑(fewOf m 2 ++ [97]).length : Int))
 (i + 1)
 (cs ++
 [(gt (findAll (fewOf l 60) (fewOf m 2 ++ [97])).fst
 i,
 gt
 (findAll (fewOf l 60)
 (fewOf m 2 ++ [97])).fst
 i +
 (↑(fewOf m 2 ++ [97]).length : Int))]) <
 m_1 endQ i cs) ∧
 (¬endQ ≤ gt (findAll (fewOf l 60) (fewOf m 2 ++ [97])).fst i →
 inI64 (i + 1) ∧
 (findAll (fewOf l 60) (fewOf m 2 ++ [97])).fst =
 (findAll (fewOf l 60) (fewOf m 2 ++ [97])).fst ∧
 I endQ (i + 1) cs ∧ m_1 endQ (i + 1) cs < m_1 endQ i cs)) ∧
 (¬i < (↑(findAll (fewOf l 60) (fewOf m 2 ++ [97])).fst.length : Int) →
 ((↑cs.length : Int) ≠ (findReplace (fewOf l 60) (fewOf m 2 ++ [97]) (fewOf o 3)).snd.fst →
 false = true) ∧
 (¬(↑cs.length : Int) ≠
 (findReplace (fewOf l 60) (fewOf m 2 ++ [97]) (fewOf o 3)).snd.fst →
 (20 < (findReplace (fewOf l 60) (fewOf m 2 ++ [97]) (fewOf o 3)).snd.fst →
 true = true) ∧
 (¬20 < (findReplace (fewOf l 60) (fewOf m 2 ++ [97]) (fewOf o 3)).snd.fst →
 (fitS (fewOf l 60) ∧ fitS (fewOf o 3)) ∧
 (fitS [98] ∧ fitS [97]) ∧
 bo
 (((((cursorsType (fewOf l 60) cs (fewOf o 3)).snd.snd = 0 ∧
 (cursorsType [98] [(0, 0)] [97]).snd.snd = 0) ∧
 (cursorsType [98] [(0, 0)] [97]).fst = [97, 98]) ∧
 (cursorsType (fewOf l 60) cs (fewOf o 3)).fst =
 (findReplace (fewOf l 60) (fewOf m 2 ++ [97]) (fewOf o 3)).fst) ∧
 (↑(cursorsType (fewOf l 60) cs (fewOf o 3)).snd.fst.length : Int) =
 (findReplace (fewOf l 60) (fewOf m 2 ++ [97]) (fewOf o 3)).snd.fst) =
 true))))) :
 Con Try.prog f_top_TopTyped law_TopTyped_ct := ⟨top_TopTyped_ok.able rfl, fun x hx =>
 con_eq hC (L := []) (trivial) top_TopTyped_ok (ct := law_TopTyped_ct) (depth := 0) rfl (by kernel_rfl) x (H (@id (List Int × List Int × List Int) x).1 (@id (List Int × List Int × List Int) x).2.1 (@id (List Int × List Int × List Int) x).2.2 (mpr' hx (by kernel_rfl))) (by kernel_rfl)⟩

end Go.Proofs.Ytkemhbclkglmbaa
