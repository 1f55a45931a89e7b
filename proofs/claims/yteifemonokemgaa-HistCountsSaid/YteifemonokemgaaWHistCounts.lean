/- The typed conditions of the functions, printed by a program of the claim's author; each gives the contract of its function. Conditions: none. -/
import Derived.Test.YteifemonokemgaaGHistCounts
import Derived.Test.YteifemonokemgaaVpA
import Derived.Test.YteifemonokemgaaVpB
import Derived.Test.YteifemonokemgaaVpC
import Derived.Test.YteifemonokemgaaVpE
import Derived.Test.YteifemonokemgaaVpJ
import Derived.Test.YteifemonokemgaaVpHI
import Derived.Test.YteifemonokemgaaH3
import Derived.Test.YteifemonokemgaaH4
import Derived.Test.YteifemonokemgaaBase
set_option linter.unusedVariables false
set_option linter.unusedSimpArgs false
set_option maxRecDepth 100000
namespace Go.Proofs.Yteifemonokemgaa
open Go.Vc Go.Fu

theorem edit_Check_vc (hC : Cons Try.prog [])
 (H : ∀ (size : Int) (e : Int × Int × List UInt8), (inI64 size ∧ editFits e) →
 (¬((((size < 0 ∨ 600 < size) ∨ e.fst < 0) ∨ size < e.fst) ∨ e.snd.fst < 0) → inI64 (size - e.fst)) ∧
 (((((size < 0 ∨ 600 < size) ∨ e.fst < 0) ∨ size < e.fst) ∨ e.snd.fst < 0) ∨ size - e.fst < e.snd.fst →
 2 = editFault size e) ∧
 (¬(((((size < 0 ∨ 600 < size) ∨ e.fst < 0) ∨ size < e.fst) ∨ e.snd.fst < 0) ∨ size - e.fst < e.snd.fst) →
 inI64 (size - e.snd.fst) ∧
 inI64 (size - e.snd.fst + (↑e.snd.snd.length : Int)) ∧
 (600 < size - e.snd.fst + (↑e.snd.snd.length : Int) → 1 = editFault size e) ∧
 (¬600 < size - e.snd.fst + (↑e.snd.snd.length : Int) → 0 = editFault size e))) :
 Con Try.prog f_edit_Check edit_Check_ct := ⟨edit_Check_ok.able rfl, fun x hx =>
 con_eq hC (L := []) (trivial) edit_Check_ok (ct := edit_Check_ct) (depth := 0) rfl (by kernel_rfl) x (H (@id (Int × (Int × Int × List UInt8)) x).1 (@id (Int × (Int × Int × List UInt8)) x).2 (mpr' hx (by kernel_rfl))) (by kernel_rfl)⟩

theorem edit_Made_vc (hC : Cons Try.prog [])
 (H : ∀ (text : List UInt8) (e : Int × Int × List UInt8), (editMay (↑text.length : Int) e) →
 (0 : Int) ≤ (0 : Int) ∧
 (0 : Int) ≤ e.fst ∧
 e.fst ≤ (↑text.length : Int) ∧
 inI64
 ((↑(List.drop (Int.toNat (0 : Int)) (List.take e.fst.toNat text)).length : Int) + (↑e.snd.snd.length : Int)) ∧
 inI64 (e.fst + e.snd.fst) ∧
 (0 : Int) ≤ e.fst + e.snd.fst ∧
 e.fst + e.snd.fst ≤ (↑text.length : Int) ∧
 (↑text.length : Int) ≤ (↑text.length : Int) ∧
 inI64
 ((↑(List.drop (Int.toNat (0 : Int)) (List.take e.fst.toNat text) ++ e.snd.snd).length : Int) +
 (↑(List.drop (e.fst + e.snd.fst).toNat (List.take (↑text.length : Int).toNat text)).length :
 Int)) ∧
 List.drop (Int.toNat (0 : Int)) (List.take e.fst.toNat text) ++ e.snd.snd ++
 List.drop (e.fst + e.snd.fst).toNat (List.take (↑text.length : Int).toNat text) =
 editMade text e) :
 Con Try.prog f_edit_Made edit_Made_ct := ⟨edit_Made_ok.able rfl, fun x hx =>
 con_eq hC (L := []) (trivial) edit_Made_ok (ct := edit_Made_ct) (depth := 0) rfl (by kernel_rfl) x (H (@id (List UInt8 × (Int × Int × List UInt8)) x).1 (@id (List UInt8 × (Int × Int × List UInt8)) x).2 (mpr' hx (by kernel_rfl))) (by kernel_rfl)⟩

theorem edit_Undo_vc (hC : Cons Try.prog [])
 (H : ∀ (text : List UInt8) (e : Int × Int × List UInt8), (editMay (↑text.length : Int) e) →
 inI64 (e.fst + e.snd.fst) ∧
 0 ≤ e.fst ∧
 e.fst ≤ e.fst + e.snd.fst ∧
 e.fst + e.snd.fst ≤ (↑text.length : Int) ∧
 (e.fst, (↑e.snd.snd.length : Int), List.drop e.fst.toNat (List.take (e.fst + e.snd.fst).toNat text)) =
 editUndo text e) :
 Con Try.prog f_edit_Undo edit_Undo_ct := ⟨edit_Undo_ok.able rfl, fun x hx =>
 con_eq hC (L := []) (trivial) edit_Undo_ok (ct := edit_Undo_ct) (depth := 0) rfl (by kernel_rfl) x (H (@id (List UInt8 × (Int × Int × List UInt8)) x).1 (@id (List UInt8 × (Int × Int × List UInt8)) x).2 (mpr' hx (by kernel_rfl))) (by kernel_rfl)⟩

theorem ref_EditFault_vc (hC : Cons Try.prog [])
 (H : ∀ (size : Int) (e : Int × Int × List UInt8), (inI64 size ∧ editFits e) →
 (¬(((((size < 0 ∨ 600 < size) ∨ e.fst < 0) ∨ e.snd.fst < 0) ∨ size < e.fst) ∨ size < e.snd.fst) →
 inI64 (e.fst + e.snd.fst)) ∧
 ((((((size < 0 ∨ 600 < size) ∨ e.fst < 0) ∨ e.snd.fst < 0) ∨ size < e.fst) ∨ size < e.snd.fst) ∨
 size < e.fst + e.snd.fst →
 2 = editFault size e) ∧
 (¬((((((size < 0 ∨ 600 < size) ∨ e.fst < 0) ∨ e.snd.fst < 0) ∨ size < e.fst) ∨ size < e.snd.fst) ∨
 size < e.fst + e.snd.fst) →
 inI64 (size + (↑e.snd.snd.length : Int)) ∧
 inI64 (size + (↑e.snd.snd.length : Int) - e.snd.fst) ∧
 (600 < size + (↑e.snd.snd.length : Int) - e.snd.fst → 1 = editFault size e) ∧
 (¬600 < size + (↑e.snd.snd.length : Int) - e.snd.fst → 0 = editFault size e))) :
 Con Try.prog f_ref_EditFault ref_EditFault_ct := ⟨ref_EditFault_ok.able rfl, fun x hx =>
 con_eq hC (L := []) (trivial) ref_EditFault_ok (ct := ref_EditFault_ct) (depth := 0) rfl (by kernel_rfl) x (H (@id (Int × (Int × Int × List UInt8)) x).1 (@id (Int × (Int × Int × List UInt8)) x).2 (mpr' hx (by kernel_rfl))) (by kernel_rfl)⟩

theorem ref_editMade_vc (hC : Cons Try.prog [])
 (H : ∀ (text : List UInt8) (e : Int × Int × List UInt8), (editMay (↑text.length : Int) e) →
 ∃ (I : List UInt8 → Int → Prop),
 ∃ (m : List UInt8 → Int → Nat),
 (e.fst = e.fst ∧ e.snd.fst = e.snd.fst ∧ e.snd.snd = e.snd.snd ∧ I [] 0) ∧
 ∀ (out : List UInt8) (i : Int),
 I out i →
 (i ≤ (↑text.length : Int) →
 (i = e.fst → inI64 ((↑out.length : Int) + (↑e.snd.snd.length : Int))) ∧
 (i < (↑text.length : Int) ∧ ¬i < e.fst → inI64 (e.fst + e.snd.fst)) ∧
 (i < (↑text.length : Int) ∧ (i < e.fst ∨ e.fst + e.snd.fst ≤ i) → inI64 (i + 1)) ∧
 (i < (↑text.length : Int) ∧ (i < e.fst ∨ e.fst + e.snd.fst ≤ i) → 0 ≤ i) ∧
 (i < (↑text.length : Int) ∧ (i < e.fst ∨ e.fst + e.snd.fst ≤ i) → i ≤ i + 1) ∧
 (i < (↑text.length : Int) ∧ (i < e.fst ∨ e.fst + e.snd.fst ≤ i) →
 i + 1 ≤ (↑text.length : Int)) ∧
 (i < (↑text.length : Int) ∧ (i < e.fst ∨ e.fst + e.snd.fst ≤ i) →
 inI64
 ((↑(iteP (i = e.fst) (out ++ e.snd.snd) out).length : Int) +
 (↑(List.drop i.toNat (List.take (i + 1).toNat text)).length : Int))) ∧
 inI64 (i + 1) ∧
 e.fst = e.fst ∧
 e.snd.fst = e.snd.fst ∧
 e.snd.snd = e.snd.snd ∧
 I
 (iteP (i < (↑text.length : Int) ∧ (i < e.fst ∨ e.fst + e.snd.fst ≤ i))
 (iteP (i = e.fst) (out ++ e.snd.snd) out ++
 List.drop i.toNat (List.take (i + 1).toNat text))
 (iteP (i = e.fst) (out ++ e.snd.snd) out))
 (i + 1) ∧
 m
 (iteP (i < (↑text.length : Int) ∧ (i < e.fst ∨ e.fst + e.snd.fst ≤ i))
 (iteP (i = e.fst) (out ++ e.snd.snd) out ++
 List.drop i.toNat (List.take (i + 1).toNat text))
 (iteP (i = e.fst) (out ++ e.snd.snd) out))
 (i + 1) <
 m out i) ∧
 (¬i ≤ (↑text.length : Int) → out = editMade text e)) :
 Con Try.prog f_ref_editMade ref_editMade_ct := ⟨ref_editMade_ok.able rfl, fun x hx =>
 con_eq hC (L := []) (trivial) ref_editMade_ok (ct := ref_editMade_ct) (depth := 0) rfl (by kernel_rfl) x (H (@id (List UInt8 × (Int × Int × List UInt8)) x).1 (@id (List UInt8 × (Int × Int × List UInt8)) x).2 (mpr' hx (by kernel_rfl))) (by kernel_rfl)⟩

theorem law_HistCounts_vc (hC : Cons Try.prog [(f_hist_Counts, hist_Counts_ct), (f_ref_HistPlayed, ref_HistPlayed_ct)])
 (H : ∀ (text : List UInt8) (l : List (Int × Int × Int × List UInt8)), (text.length.le 140737488351232 ∧
 l.length ≤ 140737488351232 ∧
 ∀ (x : Int × Int × Int × List UInt8),
 List.Mem x l →
 (IntKind.i64.min ≤ x.1 ∧ x.1 ≤ IntKind.i64.max) ∧
 (IntKind.i64.min ≤ x.2.1 ∧ x.2.1 ≤ IntKind.i64.max) ∧
 (IntKind.i64.min ≤ x.2.2.1 ∧ x.2.2.1 ≤ IntKind.i64.max) ∧ x.2.2.2.length.le 140737488351232) →
 histPre text l ∧
 histPre text l ∧
 bo
 (((histCounts text l).fst = (histCounts text l).fst ∧
 (histCounts text l).snd.fst = (histCounts text l).snd.fst) ∧
 (histCounts text l).snd.snd = (histPlay text l).snd.snd) =
 true) :
 Con Try.prog f_law_HistCounts law_HistCounts_ct := ⟨law_HistCounts_ok.able rfl, fun x hx =>
 con_eq hC (L := []) (trivial) law_HistCounts_ok (ct := law_HistCounts_ct) (depth := 0) rfl (by kernel_rfl) x (H (@id (List UInt8 × (List (Int × Int × Int × List UInt8))) x).1 (@id (List UInt8 × (List (Int × Int × Int × List UInt8))) x).2 (mpr' hx (by kernel_rfl))) (by kernel_rfl)⟩

end Go.Proofs.Yteifemonokemgaa
