/- The typed conditions of the functions, printed by a program of the claim's author; each gives the contract of its function. Conditions: none. -/
import Derived.Test.YtgnhlecfladigaaGEditChecks
import Derived.Test.YtgnhlecfladigaaVpA
import Derived.Test.YtgnhlecfladigaaVpB
import Derived.Test.YtgnhlecfladigaaBase
set_option linter.unusedVariables false
set_option linter.unusedSimpArgs false
set_option maxRecDepth 100000
namespace Go.Proofs.Ytgnhlecfladigaa
open Go.Vc Go.Fu

theorem edit_Check_vc (hC : Cons Try.prog [])
    (H : ∀ (size : Int) (e : Int × Int × List UInt8), (inI64 size ∧ editFits e) →
  (¬((((size < 0 ∨ 600 < size) ∨ e.fst < 0) ∨ size < e.fst) ∨ e.snd.fst < 0) → inI64 (size - e.fst)) ∧
  (((((size < 0 ∨ 600 < size) ∨ e.fst < 0) ∨ size < e.fst) ∨ e.snd.fst < 0) ∨ size - e.fst < e.snd.fst →
      2 = editFault size e) ∧
    (¬(((((size < 0 ∨ 600 < size) ∨ e.fst < 0) ∨ size < e.fst) ∨ e.snd.fst < 0) ∨ size - e.fst < e.snd.fst) →
      inI64 (size - e.snd.fst) ∧
        inI64 (size - e.snd.fst + (↑e.snd.snd.length : Int)) ∧
          (600 < size - e.snd.fst + (↑e.snd.snd.length : Int) → 1 = editFault size e) ∧
            (¬600 < size - e.snd.fst + (↑e.snd.snd.length : Int) → 0 = editFault size e))) :
    Con Try.prog f_edit_Check edit_Check_ct := fun x hx =>
  con_eq hC (L := []) (trivial) edit_Check_ok (ct := edit_Check_ct) (depth := 0) (by kernel_rfl) x (H (@id (Int × (Int × Int × List UInt8)) x).1 (@id (Int × (Int × Int × List UInt8)) x).2 (mpr' hx (by kernel_rfl))) (by kernel_rfl)

theorem ref_EditFault_vc (hC : Cons Try.prog [])
    (H : ∀ (size : Int) (e : Int × Int × List UInt8), (inI64 size ∧ editFits e) →
  (¬(((((size < 0 ∨ 600 < size) ∨ e.fst < 0) ∨ e.snd.fst < 0) ∨ size < e.fst) ∨ size < e.snd.fst) →
    inI64 (e.fst + e.snd.fst)) ∧
  ((((((size < 0 ∨ 600 < size) ∨ e.fst < 0) ∨ e.snd.fst < 0) ∨ size < e.fst) ∨ size < e.snd.fst) ∨
        size < e.fst + e.snd.fst →
      2 = editFault size e) ∧
    (¬((((((size < 0 ∨ 600 < size) ∨ e.fst < 0) ∨ e.snd.fst < 0) ∨ size < e.fst) ∨ size < e.snd.fst) ∨
          size < e.fst + e.snd.fst) →
      inI64 (size + (↑e.snd.snd.length : Int)) ∧
        inI64 (size + (↑e.snd.snd.length : Int) - e.snd.fst) ∧
          (600 < size + (↑e.snd.snd.length : Int) - e.snd.fst → 1 = editFault size e) ∧
            (¬600 < size + (↑e.snd.snd.length : Int) - e.snd.fst → 0 = editFault size e))) :
    Con Try.prog f_ref_EditFault ref_EditFault_ct := fun x hx =>
  con_eq hC (L := []) (trivial) ref_EditFault_ok (ct := ref_EditFault_ct) (depth := 0) (by kernel_rfl) x (H (@id (Int × (Int × Int × List UInt8)) x).1 (@id (Int × (Int × Int × List UInt8)) x).2 (mpr' hx (by kernel_rfl))) (by kernel_rfl)

theorem law_EditChecks_vc (hC : Cons Try.prog [(f_edit_Check, edit_Check_ct), (f_ref_EditFault, ref_EditFault_ct)])
    (H : ∀ (size : Int) (e : Int × Int × List UInt8), ((IntKind.i64.min ≤ size ∧ size ≤ IntKind.i64.max) ∧
  (IntKind.i64.min ≤ e.1 ∧ e.1 ≤ IntKind.i64.max) ∧
    (IntKind.i64.min ≤ e.2.1 ∧ e.2.1 ≤ IntKind.i64.max) ∧ e.2.2.length.le 140737488351232) →
  (inI64 size ∧ editFits (e.fst, e.snd.fst, e.snd.snd)) ∧
  (inI64 size ∧ editFits (e.fst, e.snd.fst, e.snd.snd)) ∧
    bo (editFault size (e.fst, e.snd.fst, e.snd.snd) = editFault size (e.fst, e.snd.fst, e.snd.snd)) = true) :
    Con Try.prog f_law_EditChecks law_EditChecks_ct := fun x hx =>
  con_eq hC (L := []) (trivial) law_EditChecks_ok (ct := law_EditChecks_ct) (depth := 0) (by kernel_rfl) x (H (@id (Int × (Int × Int × List UInt8)) x).1 (@id (Int × (Int × Int × List UInt8)) x).2 (mpr' hx (by kernel_rfl))) (by kernel_rfl)

end Go.Proofs.Ytgnhlecfladigaa
