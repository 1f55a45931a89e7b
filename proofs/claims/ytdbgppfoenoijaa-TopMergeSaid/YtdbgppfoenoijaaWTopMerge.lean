/- The typed conditions of the functions, printed by a program of the claim's author; each gives the contract of its function. Conditions: none. -/
import Derived.Test.YtdbgppfoenoijaaGTopMerge
import Derived.Test.YtdbgppfoenoijaaVpA
import Derived.Test.YtdbgppfoenoijaaVpB
import Derived.Test.YtdbgppfoenoijaaVpC
import Derived.Test.YtdbgppfoenoijaaVpKP
import Derived.Test.YtdbgppfoenoijaaVpE
import Derived.Test.YtdbgppfoenoijaaVpT
import Derived.Test.YtdbgppfoenoijaaVpMG
import Derived.Test.YtdbgppfoenoijaaVpMH
import Derived.Test.YtdbgppfoenoijaaVpMI
import Derived.Test.YtdbgppfoenoijaaVpMJ
import Derived.Test.YtdbgppfoenoijaaVpMK
import Derived.Test.YtdbgppfoenoijaaVpML
import Derived.Test.YtdbgppfoenoijaaVpMM
import Derived.Test.YtdbgppfoenoijaaVpMN
import Derived.Test.YtdbgppfoenoijaaVpMO
import Derived.Test.YtdbgppfoenoijaaVpMP
import Derived.Test.YtdbgppfoenoijaaVpMQ
import Derived.Test.YtdbgppfoenoijaaVpJ
import Derived.Test.YtdbgppfoenoijaaH7
import Derived.Test.YtdbgppfoenoijaaBase
set_option linter.unusedVariables false
set_option linter.unusedSimpArgs false
set_option maxRecDepth 100000
namespace Go.Proofs.Ytdbgppfoenoijaa
open Go.Vc Go.Fu

theorem keep_Picked_vc (hC : Cons Try.prog [])
 (H : ∀ (a : Int) (n : Int), (pickPre (a, n)) →
 n ≠ 0 ∧ (a.tmod n < 0 → inI64 (a.tmod n + n) ∧ a.tmod n + n = pickOf a n) ∧ (¬a.tmod n < 0 → a.tmod n = pickOf a n)) :
 Con Try.prog f_keep_Picked keep_Picked_ct := ⟨keep_Picked_ok.able rfl, fun x hx =>
 con_eq hC (L := []) (trivial) keep_Picked_ok (ct := keep_Picked_ct) (depth := 0) rfl (by kernel_rfl) x (H (@id (Int × Int) x).1 (@id (Int × Int) x).2 (mpr' hx (by kernel_rfl))) (by kernel_rfl)⟩

theorem keep_TextOf_vc (hC : Cons Try.prog [(f_keep_Picked, keep_Picked_ct)])
 (H : ∀ (l : List Int) (n : Int), (fewPre (l, n)) →
 ∃ (I : List UInt8 → Int → Prop),
 ∃ (m : List UInt8 → Int → Nat),
 I [] (0 : Int) ∧
 ∀ (out : List UInt8) (i : Int),
 I out i →
 (i < (↑l.length : Int) ∧ i < n →
 (0 : Int) ≤ i ∧
 i < (↑l.length : Int) ∧
 pickPre (gt l i, (12 : Int)) ∧
 (0 : Int) ≤ pickOf (gt l i) (12 : Int) ∧
 pickOf (gt l i) (12 : Int) ≤ (↑(12 : Nat) : Int) ∧
 (↑(12 : Nat) : Int) ≤ (↑(12 : Nat) : Int) ∧
 (0 : Int) ≤ (0 : Int) ∧
 (0 : Int) ≤ (1 : Int) ∧
 (1 : Int) ≤
 (↑(List.drop (pickOf (gt l i) (12 : Int)).toNat
 (List.take (↑(12 : Nat) : Int).toNat
 [(97 : UInt8), (98 : UInt8), (32 : UInt8), (10 : UInt8), (97 : UInt8),
 (98 : UInt8), (99 : UInt8), (100 : UInt8), (32 : UInt8), (98 : UInt8),
 (10 : UInt8), (97 : UInt8)])).length :
 Int) ∧
 inI64
 ((↑out.length : Int) +
 (↑(List.drop (Int.toNat (0 : Int))
 (List.take (Int.toNat (1 : Int))
 (List.drop (pickOf (gt l i) (12 : Int)).toNat
 (List.take (↑(12 : Nat) : Int).toNat
 [(97 : UInt8), (98 : UInt8), (32 : UInt8), (10 : UInt8),
 (97 : UInt8), (98 : UInt8), (99 : UInt8), (100 : UInt8),
 (32 : UInt8), (98 : UInt8), (10 : UInt8),
 (97 : UInt8)])))).length :
 Int)) ∧
 inI64 (i + (1 : Int)) ∧
 I
 (out ++
 List.drop (Int.toNat (0 : Int))
 (List.take (Int.toNat (1 : Int))
 (List.drop (pickOf (gt l i) (12 : Int)).toNat
 (List.take (↑(12 : Nat) : Int).toNat
 [(97 : UInt8), (98 : UInt8), (32 : UInt8), (10 : UInt8), (97 : UInt8),
 (98 : UInt8), (99 : UInt8), (100 : UInt8), (32 : UInt8),
 (98 : UInt8), (10 : UInt8), (97 : UInt8)]))))
 (i + (1 : Int)) ∧
 m
 (out ++
 List.drop (Int.toNat (0 : Int))
 (List.take (Int.toNat (1 : Int))
 (List.drop (pickOf (gt l i) (12 : Int)).toNat
 (List.take (↑(12 : Nat) : Int).toNat
 [(97 : UInt8), (98 : UInt8), (32 : UInt8), (10 : UInt8),
 (97 : UInt8), (98 : UInt8), (99 : UInt8), (100 : UInt8),
 (32 : UInt8), (98 : UInt8), (10 : UInt8), (97 : UInt8)]))))
 (i + (1 : Int)) <
 m out i) ∧
 (¬(i < (↑l.length : Int) ∧ i < n) → out = textOf l n)) :
 Con Try.prog f_keep_TextOf keep_TextOf_ct := ⟨keep_TextOf_ok.able rfl, fun x hx =>
 con_eq hC (L := []) (trivial) keep_TextOf_ok (ct := keep_TextOf_ct) (depth := 0) rfl (by kernel_rfl) x (H (@id (List Int × Int) x).1 (@id (List Int × Int) x).2 (mpr' hx (by kernel_rfl))) (by kernel_rfl)⟩

theorem keep_Few_vc (hC : Cons Try.prog [(f_keep_Picked, keep_Picked_ct)])
 (H : ∀ (l : List Int) (n : Int), (fewPre (l, n)) →
 ∃ (I : List UInt8 → Int → Prop),
 ∃ (m : List UInt8 → Int → Nat),
 I [] 0 ∧
 ∀ (out : List UInt8) (i : Int),
 I out i →
 (i < (↑l.length : Int) ∧ i < n →
 0 ≤ i ∧
 i < (↑l.length : Int) ∧
 pickPre (gt l i, 2) ∧
 0 ≤ pickOf (gt l i) 2 ∧
 pickOf (gt l i) 2 < (↑2 : Int) ∧
 inI64 ((↑out.length : Int) + (↑(gt [[(97 : UInt8)], [98]] (pickOf (gt l i) 2)).length : Int)) ∧
 inI64 (i + 1) ∧
 I (out ++ gt [[(97 : UInt8)], [98]] (pickOf (gt l i) 2)) (i + 1) ∧
 m (out ++ gt [[(97 : UInt8)], [98]] (pickOf (gt l i) 2)) (i + 1) < m out i) ∧
 (¬(i < (↑l.length : Int) ∧ i < n) → out = fewOf l n)) :
 Con Try.prog f_keep_Few keep_Few_ct := ⟨keep_Few_ok.able rfl, fun x hx =>
 con_eq hC (L := []) (trivial) keep_Few_ok (ct := keep_Few_ct) (depth := 0) rfl (by kernel_rfl) x (H (@id (List Int × Int) x).1 (@id (List Int × Int) x).2 (mpr' hx (by kernel_rfl))) (by kernel_rfl)⟩

theorem edit_Check_vc (hC : Cons Try.prog [])
 (H : ∀ (size : Int) (e : Int × Int × List UInt8), (inI64 size ∧ editFits e) →
 (¬((((size < 0 ∨ 600 < size) ∨ e.fst < 0) ∨ size < e.fst) ∨ e.snd.fst < 0) → inI64 (size - e.fst)) ∧
 (((((size < 0 ∨ 600 < size) ∨ e.fst < 0) ∨ size < e.fst) ∨ e.snd.fst < 0) ∨ size - e.fst < e.snd.fst →
 2 = editFault size e) ∧
 (¬(((((size < 0 ∨ 600 < size) ∨ e.fst < 0) ∨ size < e.fst) ∨ e.snd.fst < 0) ∨ size - e.fst < e.snd.fst) →
 inI64 (size - e.snd.fst) ∧
 inI64 (size - e.snd.fst + (↑e.snd.snd.length : Int)) ∧
 (600 < size - e.snd.fst + (↑e.snd.snd.length : Int) → 1 = editFault size e) ∧
 (¬600 < size - e.snd.fst + (↑e.snd.snd.length : Int) → 0 = editFault size e))) :
 Con Try.prog f_edit_Check edit_Check_ct := ⟨edit_Check_ok.able rfl, fun x hx =>
 con_eq hC (L := []) (trivial) edit_Check_ok (ct := edit_Check_ct) (depth := 0) rfl (by kernel_rfl) x (H (@id (Int × (Int × Int × List UInt8)) x).1 (@id (Int × (Int × Int × List UInt8)) x).2 (mpr' hx (by kernel_rfl))) (by kernel_rfl)⟩

theorem edit_Made_vc (hC : Cons Try.prog [])
 (H : ∀ (text : List UInt8) (e : Int × Int × List UInt8), (editMay (↑text.length : Int) e) →
 (0 : Int) ≤ (0 : Int) ∧
 (0 : Int) ≤ e.fst ∧
 e.fst ≤ (↑text.length : Int) ∧
 inI64
 ((↑(List.drop (Int.toNat (0 : Int)) (List.take e.fst.toNat text)).length : Int) + (↑e.snd.snd.length : Int)) ∧
 inI64 (e.fst + e.snd.fst) ∧
 (0 : Int) ≤ e.fst + e.snd.fst ∧
 e.fst + e.snd.fst ≤ (↑text.length : Int) ∧
 (↑text.length : Int) ≤ (↑text.length : Int) ∧
 inI64
 ((↑(List.drop (Int.toNat (0 : Int)) (List.take e.fst.toNat text) ++ e.snd.snd).length : Int) +
 (↑(List.drop (e.fst + e.snd.fst).toNat (List.take (↑text.length : Int).toNat text)).length :
 Int)) ∧
 List.drop (Int.toNat (0 : Int)) (List.take e.fst.toNat text) ++ e.snd.snd ++
 List.drop (e.fst + e.snd.fst).toNat (List.take (↑text.length : Int).toNat text) =
 editMade text e) :
 Con Try.prog f_edit_Made edit_Made_ct := ⟨edit_Made_ok.able rfl, fun x hx =>
 con_eq hC (L := []) (trivial) edit_Made_ok (ct := edit_Made_ct) (depth := 0) rfl (by kernel_rfl) x (H (@id (List UInt8 × (Int × Int × List UInt8)) x).1 (@id (List UInt8 × (Int × Int × List UInt8)) x).2 (mpr' hx (by kernel_rfl))) (by kernel_rfl)⟩

theorem edit_Undo_vc (hC : Cons Try.prog [])
 (H : ∀ (text : List UInt8) (e : Int × Int × List UInt8), (editMay (↑text.length : Int) e) →
 inI64 (e.fst + e.snd.fst) ∧
 0 ≤ e.fst ∧
 e.fst ≤ e.fst + e.snd.fst ∧
 e.fst + e.snd.fst ≤ (↑text.length : Int) ∧
 (e.fst, (↑e.snd.snd.length : Int), List.drop e.fst.toNat (List.take (e.fst + e.snd.fst).toNat text)) =
 editUndo text e) :
 Con Try.prog f_edit_Undo edit_Undo_ct := ⟨edit_Undo_ok.able rfl, fun x hx =>
 con_eq hC (L := []) (trivial) edit_Undo_ok (ct := edit_Undo_ct) (depth := 0) rfl (by kernel_rfl) x (H (@id (List UInt8 × (Int × Int × List UInt8)) x).1 (@id (List UInt8 × (Int × Int × List UInt8)) x).2 (mpr' hx (by kernel_rfl))) (by kernel_rfl)⟩

theorem edit_run_vc (hC : Cons Try.prog [(f_edit_Check, edit_Check_ct), (f_edit_Made, edit_Made_ct), (f_edit_Undo, edit_Undo_ct)])
 (H : ∀ (text : List UInt8) (l : List (Int × Int × List UInt8)), (editsFit l) →
 (60 < (↑l.length : Int) ∨ 600 < (↑text.length : Int) →
 [] = (editRun text l).fst ∧ [] = (editRun text l).snd.fst ∧ 1 = (editRun text l).snd.snd) ∧
 (¬(60 < (↑l.length : Int) ∨ 600 < (↑text.length : Int)) →
 ∃ (I : List UInt8 → Int → List (Int × Int × List UInt8) → Prop),
 ∃ (m : List UInt8 → Int → List (Int × Int × List UInt8) → Nat),
 I text 0 [] ∧
 ∀ (text_1 : List UInt8) (x : Int) (back : List (Int × Int × List UInt8)),
 I text_1 x back →
 (x < (↑l.length : Int) →
 0 ≤ x ∧
 x < (↑l.length : Int) ∧
 (inI64 (↑text_1.length : Int) ∧ editFits ((gt l x).fst, (gt l x).snd.fst, (gt l x).snd.snd)) ∧
 (editFault (↑text_1.length : Int) ((gt l x).fst, (gt l x).snd.fst, (gt l x).snd.snd) ≠ 0 →
 [] = (editRun text l).fst ∧
 [] = (editRun text l).snd.fst ∧
 editFault (↑text_1.length : Int) ((gt l x).fst, (gt l x).snd.fst, (gt l x).snd.snd) =
 (editRun text l).snd.snd) ∧
 (¬editFault (↑text_1.length : Int) ((gt l x).fst, (gt l x).snd.fst, (gt l x).snd.snd) ≠ 0 →
 editMay (↑text_1.length : Int) ((gt l x).fst, (gt l x).snd.fst, (gt l x).snd.snd) ∧
 (back.length + 1) * 32 ≤ 140737488355328 ∧
 editMay (↑text_1.length : Int) ((gt l x).fst, (gt l x).snd.fst, (gt l x).snd.snd) ∧
 inI64 (x + 1) ∧
 I (editMade text_1 ((gt l x).fst, (gt l x).snd.fst, (gt l x).snd.snd)) (x + 1)
 (back ++
 [((editUndo text_1 ((gt l x).fst, (gt l x).snd.fst, (gt l x).snd.snd)).fst,
 (editUndo text_1
 ((gt l x).fst, (gt l x).snd.fst, (gt l x).snd.snd)).snd.fst,
 (editUndo text_1
 ((gt l x).fst, (gt l x).snd.fst, (gt l x).snd.snd)).snd.snd)]) ∧
 m (editMade text_1 ((gt l x).fst, (gt l x).snd.fst, (gt l x).snd.snd)) (x + 1)
 (back ++
 [((editUndo text_1 ((gt l x).fst, (gt l x).snd.fst, (gt l x).snd.snd)).fst,
 (editUndo text_1
 ((gt l x).fst, (gt l x).snd.fst, (gt l x).snd.snd)).snd.fst,
 (editUndo text_1
 ((gt l x).fst, (gt l x).snd.fst, (gt l x).snd.snd)).snd.snd)]) <
 m text_1 x back)) ∧
 (¬x < (↑l.length : Int) →
 text_1 = (editRun text l).fst ∧ back = (editRun text l).snd.fst ∧ 0 = (editRun text l).snd.snd))) :
 Con Try.prog f_edit_run edit_run_ct := ⟨edit_run_ok.able rfl, fun x hx =>
 con_eq hC (L := []) (trivial) edit_run_ok (ct := edit_run_ct) (depth := 0) rfl (by kernel_rfl) x (H (@id (List UInt8 × (List (Int × Int × List UInt8))) x).1 (@id (List UInt8 × (List (Int × Int × List UInt8))) x).2 (mpr' hx (by kernel_rfl))) (by kernel_rfl)⟩

theorem edit_Apply_vc (hC : Cons Try.prog [(f_edit_run, edit_run_ct)])
 (H : ∀ (text : List UInt8) (l : List (Int × Int × List UInt8)), (editsFit l) →
 editsFit l ∧ (editRun text l).fst = (editApply text l).fst ∧ (editRun text l).snd.snd = (editApply text l).snd) :
 Con Try.prog f_edit_Apply edit_Apply_ct := ⟨edit_Apply_ok.able rfl, fun x hx =>
 con_eq hC (L := []) (trivial) edit_Apply_ok (ct := edit_Apply_ct) (depth := 0) rfl (by kernel_rfl) x (H (@id (List UInt8 × (List (Int × Int × List UInt8))) x).1 (@id (List UInt8 × (List (Int × Int × List UInt8))) x).2 (mpr' hx (by kernel_rfl))) (by kernel_rfl)⟩

theorem top_cutText_vc (hC : Cons Try.prog [])
 (H : ∀ (text : List UInt8), (text.length ≤ 1000000) →
 ∃ (I : Int → List (List UInt8) → Prop),
 ∃ (m : Int → List (List UInt8) → Nat),
 I 0 [[]] ∧
 ∀ (i : Int) (out : List (List UInt8)),
 I i out →
 (i < (↑text.length : Int) →
 0 ≤ i ∧
 i < (↑text.length : Int) ∧
 ((↑(gt text i).toNat : Int) = 10 →
 (out.length + 1) * 16 ≤ 140737488355328 ∧
 inI64 (i + 1) ∧ I (i + 1) (out ++ [[]]) ∧ m (i + 1) (out ++ [[]]) < m i out) ∧
 (¬(↑(gt text i).toNat : Int) = 10 →
 inI64 ((↑out.length : Int) - 1) ∧
 0 ≤ (↑out.length : Int) - 1 ∧
 (↑out.length : Int) - 1 < (↑out.length : Int) ∧
 inI64 (i + 1) ∧
 0 ≤ i ∧
 i ≤ i + 1 ∧
 i + 1 ≤ (↑text.length : Int) ∧
 inI64
 ((↑(gt out ((↑out.length : Int) - 1)).length : Int) +
 (↑(List.drop i.toNat (List.take (i + 1).toNat text)).length : Int)) ∧
 0 ≤ (↑out.length : Int) - 1 ∧
 (↑out.length : Int) - 1 < (↑out.length : Int) ∧
 inI64 (i + 1) ∧
 I (i + 1)
 (out.set ((↑out.length : Int) - 1).toNat
 (gt out ((↑out.length : Int) - 1) ++
 List.drop i.toNat (List.take (i + 1).toNat text))) ∧
 m (i + 1)
 (out.set ((↑out.length : Int) - 1).toNat
 (gt out ((↑out.length : Int) - 1) ++
 List.drop i.toNat (List.take (i + 1).toNat text))) <
 m i out)) ∧
 (¬i < (↑text.length : Int) → out = cutLines text)) :
 Con Try.prog f_top_cutText ref_cutLines_ct := ⟨top_cutText_ok.able rfl, fun x hx =>
 con_eq hC (L := []) (trivial) top_cutText_ok (ct := ref_cutLines_ct) (depth := 0) rfl (by kernel_rfl) x (H (@id (List UInt8) x) (mpr' hx (by kernel_rfl))) (by kernel_rfl)⟩

theorem diff_fault_vc (hC : Cons Try.prog [])
 (H : ∀ (ls : List (List (List UInt8))), (lsPre ls) →
 ∃ (I : Int → Prop),
 ∃ (m : Int → Nat),
 I (0 : Int) ∧
 ∀ (x : Int),
 I x →
 (x < (↑ls.length : Int) →
 (0 : Int) ≤ x ∧
 x < (↑ls.length : Int) ∧
 (¬(80 : Int) < (↑(gt ls x).length : Int) →
 ∃ (I_1 : Int → Prop),
 ∃ (m_1 : Int → Nat),
 I_1 (0 : Int) ∧
 ∀ (x_1 : Int),
 I_1 x_1 →
 (x_1 < (↑(gt ls x).length : Int) →
 (0 : Int) ≤ x_1 ∧
 x_1 < (↑(gt ls x).length : Int) ∧
 ((600 : Int) < (↑(gt (gt ls x) x_1).length : Int) →
 ((80 : Int) < (↑(gt ls x).length : Int) ∨ (0 : Int) ≤ x_1 →
 (1 : Int) = linesFault ls) ∧
 (¬((80 : Int) < (↑(gt ls x).length : Int) ∨ (0 : Int) ≤ x_1) →
 inI64 (x + (1 : Int)) ∧ I (x + (1 : Int)) ∧ m (x + (1 : Int)) < m x)) ∧
 (¬(600 : Int) < (↑(gt (gt ls x) x_1).length : Int) →
 inI64 (x_1 + (1 : Int)) ∧
 I_1 (x_1 + (1 : Int)) ∧ m_1 (x_1 + (1 : Int)) < m_1 x_1)) ∧
 (¬x_1 < (↑(gt ls x).length : Int) →
 ((80 : Int) < (↑(gt ls x).length : Int) ∨ (0 : Int) ≤ (-1 : Int) →
 (1 : Int) = linesFault ls) ∧
 (¬((80 : Int) < (↑(gt ls x).length : Int) ∨ (0 : Int) ≤ (-1 : Int)) →
 inI64 (x + (1 : Int)) ∧ I (x + (1 : Int)) ∧ m (x + (1 : Int)) < m x))) ∧
 (¬¬(80 : Int) < (↑(gt ls x).length : Int) →
 ((80 : Int) < (↑(gt ls x).length : Int) → (1 : Int) = linesFault ls) ∧
 (¬(80 : Int) < (↑(gt ls x).length : Int) →
 inI64 (x + (1 : Int)) ∧ I (x + (1 : Int)) ∧ m (x + (1 : Int)) < m x))) ∧
 (¬x < (↑ls.length : Int) → (0 : Int) = linesFault ls)) :
 Con Try.prog f_diff_fault diff_fault_ct := ⟨diff_fault_ok.able rfl, fun x hx =>
 con_eq hC (L := [(f_slices_ContainsFunc___string_string_, slices_ContainsFunc___string_string__fi), (f_slices_IndexFunc___string_string_, slices_IndexFunc___string_string__fi), (f_diff_fault_1, diff_fault_1_fi)]) (⟨slices_ContainsFunc___string_string__ok, slices_IndexFunc___string_string__ok, diff_fault_1_ok, trivial⟩) diff_fault_ok (ct := diff_fault_ct) (depth := 4) rfl (by kernel_rfl) x (H (@id (List (List (List UInt8))) x) (mpr' hx (by kernel_rfl))) (by kernel_rfl)⟩

theorem diff_Cost_vc (hC : Cons Try.prog [(f_diff_fault, diff_fault_ct)])
 (H : ∀ (a : List (List UInt8)) (b : List (List UInt8)), (True) →
 lsPre [a, b] ∧
 (linesFault [a, b] ≠ (0 : Int) → (0 : Int) = (diffCost a b).fst ∧ linesFault [a, b] = (diffCost a b).snd) ∧
 (¬linesFault [a, b] ≠ (0 : Int) →
 inI64 ((↑a.length : Int) + (1 : Int)) ∧
 (↑a.length : Int) + (1 : Int) = (↑a.length : Int) + (1 : Int) ∧
 (0 : Int) ≤ (↑a.length : Int) + (1 : Int) ∧
 (24 : Nat) * ((↑a.length : Int) + (1 : Int)).toNat ≤ (140737488355328 : Nat) ∧
 ∃ (I : Int → List (List Int) → Prop),
 ∃ (m : Int → List (List Int) → Nat),
 I (↑a.length : Int) (List.replicate ((↑a.length : Int) + (1 : Int)).toNat (noRow Int)) ∧
 ∀ (i : Int) (out : List (List Int)),
 I i out →
 ((0 : Int) ≤ i →
 inI64 ((↑b.length : Int) + (1 : Int)) ∧
 (↑b.length : Int) + (1 : Int) = (↑b.length : Int) + (1 : Int) ∧
 (0 : Int) ≤ (↑b.length : Int) + (1 : Int) ∧
 (8 : Nat) * ((↑b.length : Int) + (1 : Int)).toNat ≤ (140737488355328 : Nat) ∧
 (0 : Int) ≤ i ∧
 i < (↑out.length : Int) ∧
 ∃ (I_1 : Int → List (List Int) → Prop),
 ∃ (m_1 : Int → List (List Int) → Nat),
 I_1 (↑b.length : Int)
 (out.set i.toNat
 (List.replicate ((↑b.length : Int) + (1 : Int)).toNat (0 : Int))) ∧
 ∀ (k : Int) (out_1 : List (List Int)),
 I_1 k out_1 →
 ((0 : Int) ≤ k →
 (i = (↑a.length : Int) →
 (0 : Int) ≤ i ∧
 i < (↑out_1.length : Int) ∧
 inI64 ((↑b.length : Int) - k) ∧
 (0 : Int) ≤ k ∧
 k < (↑(gt out_1 i).length : Int) ∧
 inI64 (k - (1 : Int)) ∧
 I_1 (k - (1 : Int))
 (out_1.set i.toNat
 ((gt out_1 i).set k.toNat
 ((↑b.length : Int) - k))) ∧
 m_1 (k - (1 : Int))
 (out_1.set i.toNat
 ((gt out_1 i).set k.toNat
 ((↑b.length : Int) - k))) <
 m_1 k out_1) ∧
 (¬i = (↑a.length : Int) →
 (k = (↑b.length : Int) →
 (0 : Int) ≤ i ∧
 i < (↑out_1.length : Int) ∧
 inI64 ((↑a.length : Int) - i) ∧
 (0 : Int) ≤ k ∧
 k < (↑(gt out_1 i).length : Int) ∧
 inI64 (k - (1 : Int)) ∧
 I_1 (k - (1 : Int))
 (out_1.set i.toNat
 ((gt out_1 i).set k.toNat
 ((↑a.length : Int) - i))) ∧
 m_1 (k - (1 : Int))
 (out_1.set i.toNat
 ((gt out_1 i).set k.toNat
 ((↑a.length : Int) - i))) <
 m_1 k out_1) ∧
 (¬k = (↑b.length : Int) →
 (0 : Int) ≤ i ∧
 i < (↑a.length : Int) ∧
 (0 : Int) ≤ k ∧
 k < (↑b.length : Int) ∧
 (gt a i = gt b k →
 (0 : Int) ≤ i ∧
 i < (↑out_1.length : Int) ∧
 inI64 (i + (1 : Int)) ∧
 (0 : Int) ≤ i + (1 : Int) ∧
 i + (1 : Int) <
 (↑out_1.length : Int) ∧
 inI64 (k + (1 : Int)) ∧
 (0 : Int) ≤ k + (1 : Int) ∧
 k + (1 : Int) <
 (↑(gt out_1
 (i +
 (1 :
 Int))).length :
 Int) ∧
 (0 : Int) ≤ k ∧
 k <
 (↑(gt out_1 i).length :
 Int) ∧
 inI64 (k - (1 : Int)) ∧
 I_1 (k - (1 : Int))
 (out_1.set i.toNat
 ((gt out_1 i).set
 k.toNat
 (gt
 (gt out_1
 (i +
 (1 :
 Int)))
 (k +
 (1 :
 Int))))) ∧
 m_1 (k - (1 : Int))
 (out_1.set i.toNat
 ((gt out_1
 i).set
 k.toNat
 (gt
 (gt out_1
 (i +
 (1 :
 Int)))
 (k +
 (1 :
 Int))))) <
 m_1 k out_1) ∧
 (¬gt a i = gt b k →
 (0 : Int) ≤ i ∧
 i < (↑out_1.length : Int) ∧
 inI64 (i + (1 : Int)) ∧
 (0 : Int) ≤ i + (1 : Int) ∧
 i + (1 : Int) <
 (↑out_1.length : Int) ∧
 (0 : Int) ≤ k ∧
 k <
 (↑(gt out_1
 (i +
 (1 : Int))).length :
 Int) ∧
 (0 : Int) ≤ i ∧
 i < (↑out_1.length : Int) ∧
 inI64 (k + (1 : Int)) ∧
 (0 : Int) ≤
 k + (1 : Int) ∧
 k + (1 : Int) <
 (↑(gt out_1
 i).length :
 Int) ∧
 inI64
 ((1 : Int) +
 min
 (gt
 (gt out_1
 (i +
 (1 :
 Int)))
 k)
 (gt
 (gt out_1 i)
 (k +
 (1 :
 Int)))) ∧
 (0 : Int) ≤ k ∧
 k <
 (↑(gt out_1
 i).length :
 Int) ∧
 inI64
 (k -
 (1 :
 Int)) ∧
 I_1
 (k -
 (1 :
 Int))
 (out_1.set
 i.toNat
 ((gt
 out_1
 i).set
 k.toNat
 ((1 :
 Int) +
 min
 (gt
 (gt
 out_1
 (i +
 (1 :
 Int)))
 k)
 (gt
 (gt
 out_1
 i)
 (k +
 (1 :
 Int)))))) ∧
 m_1
 (k -
 (1 :
 Int))
 (out_1.set
 i.toNat
 ((gt
 out_1
 i).set
 k.toNat
 ((1 :
 Int) +
 min
 (gt
 (gt
 out_1
 (i +
 (1 :
 Int)))
 k)
 (gt
 (gt
 out_1
 i)
 (k +
 (1 :
 Int)))))) <
 m_1 k
 out_1)))) ∧
 (¬(0 : Int) ≤ k →
 inI64 (i - (1 : Int)) ∧
 I (i - (1 : Int)) out_1 ∧ m (i - (1 : Int)) out_1 < m i out)) ∧
 (¬(0 : Int) ≤ i →
 (0 : Int) ≤ (0 : Int) ∧
 (0 : Int) < (↑out.length : Int) ∧
 (0 : Int) ≤ (0 : Int) ∧
 (0 : Int) < (↑(gt out (0 : Int)).length : Int) ∧
 gt (gt out (0 : Int)) (0 : Int) = (diffCost a b).fst ∧
 (0 : Int) = (diffCost a b).snd))) :
 Con Try.prog f_diff_Cost diff_Cost_ct := ⟨diff_Cost_ok.able rfl, fun x hx =>
 con_eq hC (L := [(f_diff_costs, diff_costs_fi)]) (⟨diff_costs_ok, trivial⟩) diff_Cost_ok (ct := diff_Cost_ct) (depth := 3) rfl (by kernel_rfl) x (H (@id (List (List UInt8) × List (List UInt8)) x).1 (@id (List (List UInt8) × List (List UInt8)) x).2 (mpr' hx (by kernel_rfl))) (by kernel_rfl)⟩

theorem diff_Way_vc (hC : Cons Try.prog [])
 (H : ∀ (a : List (List UInt8)) (b : List (List UInt8)), (linesPre a ∧ linesPre b) →
 inI64 ((↑a.length : Int) + 1) ∧
 (↑a.length : Int) + 1 = (↑a.length : Int) + 1 ∧
 0 ≤ (↑a.length : Int) + 1 ∧
 24 * ((↑a.length : Int) + 1).toNat ≤ 140737488355328 ∧
 ∃ (I : Int → List (List Int) → Prop),
 ∃ (m : Int → List (List Int) → Nat),
 I (↑a.length : Int) (List.replicate ((↑a.length : Int) + 1).toNat (noRow Int)) ∧
 ∀ (i : Int) (out : List (List Int)),
 I i out →
 (0 ≤ i →
 inI64 ((↑b.length : Int) + 1) ∧
 (↑b.length : Int) + 1 = (↑b.length : Int) + 1 ∧
 0 ≤ (↑b.length : Int) + 1 ∧
 8 * ((↑b.length : Int) + 1).toNat ≤ 140737488355328 ∧
 0 ≤ i ∧
 i < (↑out.length : Int) ∧
 ∃ (I_1 : Int → List (List Int) → Prop),
 ∃ (m_1 : Int → List (List Int) → Nat),
 I_1 (↑b.length : Int)
 (out.set i.toNat (List.replicate ((↑b.length : Int) + 1).toNat 0)) ∧
 ∀ (k : Int) (out_1 : List (List Int)),
 I_1 k out_1 →
 (0 ≤ k →
 (i = (↑a.length : Int) →
 0 ≤ i ∧
 i < (↑out_1.length : Int) ∧
 inI64 ((↑b.length : Int) - k) ∧
 0 ≤ k ∧
 k < (↑(gt out_1 i).length : Int) ∧
 inI64 (k - 1) ∧
 I_1 (k - 1)
 (out_1.set i.toNat
 ((gt out_1 i).set k.toNat
 ((↑b.length : Int) - k))) ∧
 m_1 (k - 1)
 (out_1.set i.toNat
 ((gt out_1 i).set k.toNat
 ((↑b.length : Int) - k))) <
 m_1 k out_1) ∧
 (¬i = (↑a.length : Int) →
 (k = (↑b.length : Int) →
 0 ≤ i ∧
 i < (↑out_1.length : Int) ∧
 inI64 ((↑a.length : Int) - i) ∧
 0 ≤ k ∧
 k < (↑(gt out_1 i).length : Int) ∧
 inI64 (k - 1) ∧
 I_1 (k - 1)
 (out_1.set i.toNat
 ((gt out_1 i).set k.toNat
 ((↑a.length : Int) - i))) ∧
 m_1 (k - 1)
 (out_1.set i.toNat
 ((gt out_1 i).set k.toNat
 ((↑a.length : Int) - i))) <
 m_1 k out_1) ∧
 (¬k = (↑b.length : Int) →
 0 ≤ i ∧
 i < (↑a.length : Int) ∧
 0 ≤ k ∧
 k < (↑b.length : Int) ∧
 (gt a i = gt b k →
 0 ≤ i ∧
 i < (↑out_1.length : Int) ∧
 inI64 (i + 1) ∧
 0 ≤ i + 1 ∧
 i + 1 < (↑out_1.length : Int) ∧
 inI64 (k + 1) ∧
 0 ≤ k + 1 ∧
 k + 1 <
 (↑(gt out_1 (i + 1)).length :
 Int) ∧
 0 ≤ k ∧
 k < (↑(gt out_1 i).length : Int) ∧
 inI64 (k - 1) ∧
 I_1 (k - 1)
 (out_1.set i.toNat
 ((gt out_1 i).set
 k.toNat
 (gt (gt out_1 (i + 1))
 (k + 1)))) ∧
 m_1 (k - 1)
 (out_1.set i.toNat
 ((gt out_1 i).set
 k.toNat
 (gt
 (gt out_1 (i + 1))
 (k + 1)))) <
 m_1 k out_1) ∧
 (¬gt a i = gt b k →
 0 ≤ i ∧
 i < (↑out_1.length : Int) ∧
 inI64 (i + 1) ∧
 0 ≤ i + 1 ∧
 i + 1 < (↑out_1.length : Int) ∧
 0 ≤ k ∧
 k < (↑(gt out_1 (i + 1)).length : Int) ∧
 0 ≤ i ∧
 i < (↑out_1.length : Int) ∧
 inI64 (k + 1) ∧
 0 ≤ k + 1 ∧
 k + 1 <
 (↑(gt out_1 i).length :
 Int) ∧
 inI64
 (1 +
 min
 (gt
 (gt out_1 (i + 1))
 k)
 (gt (gt out_1 i)
 (k + 1))) ∧
 0 ≤ k ∧
 k <
 (↑(gt out_1
 i).length :
 Int) ∧
 inI64 (k - 1) ∧
 I_1 (k - 1)
 (out_1.set
 i.toNat
 ((gt out_1
 i).set
 k.toNat
 (1 +
 min
 (gt
 (gt
 out_1
 (i +
 1))
 k)
 (gt
 (gt
 out_1
 i)
 (k +
 1))))) ∧
 m_1 (k - 1)
 (out_1.set
 i.toNat
 ((gt out_1
 i).set
 k.toNat
 (1 +
 min
 (gt
 (gt
 out_1
 (i +
 1))
 k)
 (gt
 (gt
 out_1
 i)
 (k +
 1))))) <
 m_1 k
 out_1)))) ∧
 (¬0 ≤ k → inI64 (i - 1) ∧ I (i - 1) out_1 ∧ m (i - 1) out_1 < m i out)) ∧
 (¬0 ≤ i →
 ∃ (I : Int → Int → List (Int × Int) → Prop),
 ∃ (m : Int → Int → List (Int × Int) → Nat),
 (out = out ∧ I 0 0 []) ∧
 ∀ (i k : Int) (out_1 : List (Int × Int)),
 I i k out_1 →
 (i < (↑a.length : Int) ∨ k < (↑b.length : Int) →
 (i < (↑a.length : Int) ∧ k < (↑b.length : Int) → 0 ≤ i) ∧
 (i < (↑a.length : Int) ∧ k < (↑b.length : Int) → i < (↑a.length : Int)) ∧
 (i < (↑a.length : Int) ∧ k < (↑b.length : Int) → 0 ≤ k) ∧
 (i < (↑a.length : Int) ∧ k < (↑b.length : Int) → k < (↑b.length : Int)) ∧
 ((i < (↑a.length : Int) ∧ k < (↑b.length : Int)) ∧ gt a i = gt b k →
 (0 < (↑out_1.length : Int) → inI64 ((↑out_1.length : Int) - 1)) ∧
 (0 < (↑out_1.length : Int) → 0 ≤ (↑out_1.length : Int) - 1) ∧
 (0 < (↑out_1.length : Int) →
 (↑out_1.length : Int) - 1 < (↑out_1.length : Int)) ∧
 (0 < (↑out_1.length : Int) ∧
 (gt out_1 ((↑out_1.length : Int) - 1)).fst = 1 →
 inI64 ((↑out_1.length : Int) - 1) ∧
 0 ≤ (↑out_1.length : Int) - 1 ∧
 (↑out_1.length : Int) - 1 < (↑out_1.length : Int) ∧
 inI64 ((gt out_1 ((↑out_1.length : Int) - 1)).snd + 1) ∧
 0 ≤ (↑out_1.length : Int) - 1 ∧
 (↑out_1.length : Int) - 1 < (↑out_1.length : Int) ∧
 inI64 (i + 1) ∧
 inI64 (k + 1) ∧
 out = out ∧
 I (i + 1) (k + 1)
 (out_1.set
 ((↑out_1.length : Int) - 1).toNat
 ((gt out_1
 ((↑out_1.length : Int) -
 1)).fst,
 (gt out_1
 ((↑out_1.length : Int) -
 1)).snd +
 1)) ∧
 m (i + 1) (k + 1)
 (out_1.set
 ((↑out_1.length : Int) - 1).toNat
 ((gt out_1
 ((↑out_1.length : Int) -
 1)).fst,
 (gt out_1
 ((↑out_1.length : Int) -
 1)).snd +
 1)) <
 m i k out_1) ∧
 (¬(0 < (↑out_1.length : Int) ∧
 (gt out_1 ((↑out_1.length : Int) - 1)).fst = 1) →
 (out_1.length + 1) * 16 ≤ 140737488355328 ∧
 inI64 (i + 1) ∧
 inI64 (k + 1) ∧
 out = out ∧
 I (i + 1) (k + 1) (out_1 ++ [(1, 1)]) ∧
 m (i + 1) (k + 1) (out_1 ++ [(1, 1)]) <
 m i k out_1)) ∧
 (¬((i < (↑a.length : Int) ∧ k < (↑b.length : Int)) ∧ gt a i = gt b k) →
 (i < (↑a.length : Int) → inI64 (i + 1)) ∧
 (i < (↑a.length : Int) → 0 ≤ i + 1) ∧
 (i < (↑a.length : Int) → i + 1 < (↑out.length : Int)) ∧
 (i < (↑a.length : Int) → 0 ≤ k) ∧
 (i < (↑a.length : Int) → k < (↑(gt out (i + 1)).length : Int)) ∧
 (i < (↑a.length : Int) → inI64 (gt (gt out (i + 1)) k + 1)) ∧
 (i < (↑a.length : Int) → 0 ≤ i) ∧
 (i < (↑a.length : Int) → i < (↑out.length : Int)) ∧
 (i < (↑a.length : Int) → 0 ≤ k) ∧
 (i < (↑a.length : Int) →
 k < (↑(gt out i).length : Int)) ∧
 (i < (↑a.length : Int) ∧
 gt (gt out (i + 1)) k + 1 = gt (gt out i) k →
 (0 < (↑out_1.length : Int) →
 inI64 ((↑out_1.length : Int) - 1)) ∧
 (0 < (↑out_1.length : Int) →
 0 ≤ (↑out_1.length : Int) - 1) ∧
 (0 < (↑out_1.length : Int) →
 (↑out_1.length : Int) - 1 <
 (↑out_1.length : Int)) ∧
 (0 < (↑out_1.length : Int) ∧
 (gt out_1
 ((↑out_1.length : Int) -
 1)).fst =
 2 →
 inI64 ((↑out_1.length : Int) - 1) ∧
 0 ≤ (↑out_1.length : Int) - 1 ∧
 (↑out_1.length : Int) - 1 <
 (↑out_1.length : Int) ∧
 inI64
 ((gt out_1
 ((↑out_1.length :
 Int) -
 1)).snd +
 1) ∧
 0 ≤
 (↑out_1.length : Int) -
 1 ∧
 (↑out_1.length : Int) - 1 <
 (↑out_1.length : Int) ∧
 inI64 (i + 1) ∧
 out = out ∧
 I (i + 1) k
 (out_1.set
 ((↑out_1.length :
 Int) -
 1).toNat
 ((gt out_1
 ((↑out_1.length :
 Int) -
 1)).fst,
 (gt out_1
 ((↑out_1.length :
 Int) -
 1)).snd +
 1)) ∧
 m (i + 1) k
 (out_1.set
 ((↑out_1.length :
 Int) -
 1).toNat
 ((gt out_1
 ((↑out_1.length :
 Int) -
 1)).fst,
 (gt out_1
 ((↑out_1.length :
 Int) -
 1)).snd +
 1)) <
 m i k out_1) ∧
 (¬(0 < (↑out_1.length : Int) ∧
 (gt out_1
 ((↑out_1.length : Int) -
 1)).fst =
 2) →
 (out_1.length + 1) * 16 ≤
 140737488355328 ∧
 inI64 (i + 1) ∧
 out = out ∧
 I (i + 1) k
 (out_1 ++ [(2, 1)]) ∧
 m (i + 1) k
 (out_1 ++ [(2, 1)]) <
 m i k out_1)) ∧
 (¬(i < (↑a.length : Int) ∧
 gt (gt out (i + 1)) k + 1 =
 gt (gt out i) k) →
 (0 < (↑out_1.length : Int) →
 inI64 ((↑out_1.length : Int) - 1)) ∧
 (0 < (↑out_1.length : Int) →
 0 ≤ (↑out_1.length : Int) - 1) ∧
 (0 < (↑out_1.length : Int) →
 (↑out_1.length : Int) - 1 <
 (↑out_1.length : Int)) ∧
 (0 < (↑out_1.length : Int) ∧
 (gt out_1
 ((↑out_1.length : Int) -
 1)).fst =
 3 →
 inI64 ((↑out_1.length : Int) - 1) ∧
 0 ≤ (↑out_1.length : Int) - 1 ∧
 (↑out_1.length : Int) - 1 <
 (↑out_1.length : Int) ∧
 inI64
 ((gt out_1
 ((↑out_1.length :
 Int) -
 1)).snd +
 1) ∧
 0 ≤
 (↑out_1.length : Int) -
 1 ∧
 (↑out_1.length : Int) - 1 <
 (↑out_1.length : Int) ∧
 inI64 (k + 1) ∧
 out = out ∧
 I i (k + 1)
 (out_1.set
 ((↑out_1.length :
 Int) -
 1).toNat
 ((gt out_1
 ((↑out_1.length :
 Int) -
 1)).fst,
 (gt out_1
 ((↑out_1.length :
 Int) -
 1)).snd +
 1)) ∧
 m i (k + 1)
 (out_1.set
 ((↑out_1.length :
 Int) -
 1).toNat
 ((gt out_1
 ((↑out_1.length :
 Int) -
 1)).fst,
 (gt out_1
 ((↑out_1.length :
 Int) -
 1)).snd +
 1)) <
 m i k out_1) ∧
 (¬(0 < (↑out_1.length : Int) ∧
 (gt out_1
 ((↑out_1.length : Int) -
 1)).fst =
 3) →
 (out_1.length + 1) * 16 ≤
 140737488355328 ∧
 inI64 (k + 1) ∧
 out = out ∧
 I i (k + 1)
 (out_1 ++ [(3, 1)]) ∧
 m i (k + 1)
 (out_1 ++ [(3, 1)]) <
 m i k out_1)))) ∧
 (¬(i < (↑a.length : Int) ∨ k < (↑b.length : Int)) → out_1 = stepsOf (wayKinds a b)))) :
 Con Try.prog f_diff_Way diff_Way_ct := ⟨diff_Way_ok.able rfl, fun x hx =>
 con_eq hC (L := [(f_diff_costs, diff_costs_fi), (f_diff_add, diff_add_fi)]) (⟨diff_costs_ok, diff_add_ok, trivial⟩) diff_Way_ok (ct := diff_Way_ct) (depth := 3) rfl (by kernel_rfl) x (H (@id (List (List UInt8) × List (List UInt8)) x).1 (@id (List (List UInt8) × List (List UInt8)) x).2 (mpr' hx (by kernel_rfl))) (by kernel_rfl)⟩

theorem top_sameTexts_vc (hC : Cons Try.prog [])
 (H : ∀ (a : List (List UInt8)) (b : List (List UInt8)), (fitL a ∧ fitL b) →
 ((↑a.length : Int) ≠ (↑b.length : Int) → false = bo (a = b)) ∧
 (¬(↑a.length : Int) ≠ (↑b.length : Int) →
 ∃ (I : Int → Prop),
 ∃ (m : Int → Nat),
 I 0 ∧
 ∀ (i : Int),
 I i →
 (i < (↑a.length : Int) →
 0 ≤ i ∧
 i < (↑a.length : Int) ∧
 0 ≤ i ∧
 i < (↑b.length : Int) ∧
 (gt a i ≠ gt b i → false = bo (a = b)) ∧
 (¬gt a i ≠ gt b i → inI64 (i + 1) ∧ I (i + 1) ∧ m (i + 1) < m i)) ∧
 (¬i < (↑a.length : Int) → true = bo (a = b)))) :
 Con Try.prog f_top_sameTexts law_sameTexts_ct := ⟨top_sameTexts_ok.able rfl, fun x hx =>
 con_eq hC (L := []) (trivial) top_sameTexts_ok (ct := law_sameTexts_ct) (depth := 0) rfl (by kernel_rfl) x (H (@id (List (List UInt8) × List (List UInt8)) x).1 (@id (List (List UInt8) × List (List UInt8)) x).2 (mpr' hx (by kernel_rfl))) (by kernel_rfl)⟩

theorem top_TopMerge_vc (hC : Cons Try.prog [(f_keep_TextOf, keep_TextOf_ct), (f_keep_Picked, keep_Picked_ct), (f_keep_Few, keep_Few_ct), (f_edit_Apply, edit_Apply_ct), (f_top_cutText, ref_cutLines_ct), (f_diff_Cost, diff_Cost_ct), (f_merge_Merge, merge_Merge_ct), (f_top_sameTexts, law_sameTexts_ct)])
 (H : ∀ (text : List Int) (at_ : Int) (put : List Int), ((text.length ≤ 140737488351232 ∧ ∀ (x : Int), List.Mem x text → IntKind.i64.min ≤ x ∧ x ≤ IntKind.i64.max) ∧
 (IntKind.i64.min ≤ at_ ∧ at_ ≤ IntKind.i64.max) ∧
 put.length ≤ 140737488351232 ∧ ∀ (x : Int), List.Mem x put → IntKind.i64.min ≤ x ∧ x ≤ IntKind.i64.max) →
 fewPre (text, 80) ∧
 inI64 ((↑(List.length (textOf text 80)) : Int) + 1) ∧
 pickPre (at_, (↑(List.length (textOf text 80)) : Int) + 1) ∧
 fewPre (put, 5) ∧
 editsFit [(pickOf at_ ((↑(List.length (textOf text 80)) : Int) + 1), 0, fewOf put 5)] ∧
 List.length (textOf text 80) ≤ 1000000 ∧
 (editApply (textOf text 80)
 [(pickOf at_ ((↑(List.length (textOf text 80)) : Int) + 1), 0, fewOf put 5)]).fst.length ≤
 1000000 ∧
 (80 < (↑(cutLines (textOf text 80)).length : Int) ∨
 (editApply (textOf text 80)
 [(pickOf at_ ((↑(List.length (textOf text 80)) : Int) + 1), 0, fewOf put 5)]).snd ≠
 0 →
 ((editApply (textOf text 80)
 [(pickOf at_ ((↑(List.length (textOf text 80)) : Int) + 1), 0, fewOf put 5)]).snd =
 0 →
 inI64 ((↑(List.length (textOf text 80)) : Int) + 1)) ∧
 bo
 ((editApply (textOf text 80)
 [(pickOf at_ ((↑(List.length (textOf text 80)) : Int) + 1), 0, fewOf put 5)]).snd =
 0 ∧
 (↑(cutLines (textOf text 80)).length : Int) = (↑(List.length (textOf text 80)) : Int) + 1) =
 true) ∧
 (¬(80 < (↑(cutLines (textOf text 80)).length : Int) ∨
 (editApply (textOf text 80)
 [(pickOf at_ ((↑(List.length (textOf text 80)) : Int) + 1), 0, fewOf put 5)]).snd ≠
 0) →
 True ∧
 lsPre
 [cutLines (textOf text 80),
 cutLines
 (editApply (textOf text 80)
 [(pickOf at_ ((↑(List.length (textOf text 80)) : Int) + 1), 0, fewOf put 5)]).fst,
 cutLines (textOf text 80)] ∧
 ((((diffCost (cutLines (textOf text 80))
 (cutLines
 (editApply (textOf text 80)
 [(pickOf at_ ((↑(List.length (textOf text 80)) : Int) + 1), 0,
 fewOf put 5)]).fst)).snd =
 0 ∧
 (merged (cutLines (textOf text 80))
 (cutLines
 (editApply (textOf text 80)
 [(pickOf at_ ((↑(List.length (textOf text 80)) : Int) + 1), 0,
 fewOf put 5)]).fst)
 (cutLines (textOf text 80))).snd.snd =
 0) ∧
 (merged (cutLines (textOf text 80))
 (cutLines
 (editApply (textOf text 80)
 [(pickOf at_ ((↑(List.length (textOf text 80)) : Int) + 1), 0,
 fewOf put 5)]).fst)
 (cutLines (textOf text 80))).snd.fst =
 0) ∧
 (diffCost (cutLines (textOf text 80))
 (cutLines
 (editApply (textOf text 80)
 [(pickOf at_ ((↑(List.length (textOf text 80)) : Int) + 1), 0,
 fewOf put 5)]).fst)).fst =
 iteP
 (textOf text 80 =
 (editApply (textOf text 80)
 [(pickOf at_ ((↑(List.length (textOf text 80)) : Int) + 1), 0, fewOf put 5)]).fst)
 0 2 →
 fitL
 (merged (cutLines (textOf text 80))
 (cutLines
 (editApply (textOf text 80)
 [(pickOf at_ ((↑(List.length (textOf text 80)) : Int) + 1), 0,
 fewOf put 5)]).fst)
 (cutLines (textOf text 80))).fst ∧
 fitL
 (cutLines
 (editApply (textOf text 80)
 [(pickOf at_ ((↑(List.length (textOf text 80)) : Int) + 1), 0,
 fewOf put 5)]).fst)) ∧
 bo
 ((((((diffCost (cutLines (textOf text 80))
 (cutLines
 (editApply (textOf text 80)
 [(pickOf at_ ((↑(List.length (textOf text 80)) : Int) + 1), 0,
 fewOf put 5)]).fst)).snd =
 0 ∧
 (merged (cutLines (textOf text 80))
 (cutLines
 (editApply (textOf text 80)
 [(pickOf at_ ((↑(List.length (textOf text 80)) : Int) + 1), 0,
 fewOf put 5)]).fst)
 (cutLines (textOf text 80))).snd.snd =
 0) ∧
 (merged (cutLines (textOf text 80))
 (cutLines
 (editApply (textOf text 80)
 [(pickOf at_ ((↑(List.length (textOf text 80)) : Int) + 1), 0,
 fewOf put 5)]).fst)
 (cutLines (textOf text 80))).snd.fst =
 0) ∧
 (diffCost (cutLines (textOf text 80))
 (cutLines
 (editApply (textOf text 80)
 [(pickOf at_ ((↑(List.length (textOf text 80)) : Int) + 1), 0,
 fewOf put 5)]).fst)).fst =
 iteP
 (textOf text 80 =
 (editApply (textOf text 80)
 [(pickOf at_ ((↑(List.length (textOf text 80)) : Int) + 1), 0,
 fewOf put 5)]).fst)
 0 2) ∧
 bo
 ((merged (cutLines (textOf text 80))
 (cutLines
 (editApply (textOf text 80)
 [(pickOf at_ ((↑(List.length (textOf text 80)) : Int) + 1), 0,
 fewOf put 5)]).fst)
 (cutLines (textOf text 80))).fst =
 cutLines
 (editApply (textOf text 80)
 [(pickOf at_ ((↑(List.length (textOf text 80)) : Int) + 1), 0,
 fewOf put 5)]).fst) =
 true) ∧
 (↑(cutLines (textOf text 80)).length : Int) =
 (↑(cutLines
 (editApply (textOf text 80)
 [(pickOf at_ ((↑(List.length (textOf text 80)) : Int) + 1), 0,
 fewOf put 5)]).fst).length :
 Int)) =
 true)) :
 Con Try.prog f_top_TopMerge law_TopMerge_ct := ⟨top_TopMerge_ok.able rfl, fun x hx =>
 con_eq hC (L := []) (trivial) top_TopMerge_ok (ct := law_TopMerge_ct) (depth := 0) rfl (by kernel_rfl) x (H (@id (List Int × Int × List Int) x).1 (@id (List Int × Int × List Int) x).2.1 (@id (List Int × Int × List Int) x).2.2 (mpr' hx (by kernel_rfl))) (by kernel_rfl)⟩

end Go.Proofs.Ytdbgppfoenoijaa
