/- The typed conditions of the functions, printed by a program of the claim's author; each gives the contract of its function. Conditions: none. -/
import Derived.Test.YtgnhlecfladigaaGEditPlaces
import Derived.Test.YtgnhlecfladigaaVpA
import Derived.Test.YtgnhlecfladigaaVpB
import Derived.Test.YtgnhlecfladigaaBase
set_option linter.unusedVariables false
set_option linter.unusedSimpArgs false
set_option maxRecDepth 100000
namespace Go.Proofs.Ytgnhlecfladigaa
open Go.Vc Go.Fu

theorem edit_Moved_vc (hC : Cons Try.prog [])
    (H : ∀ (e : Int × Int × List UInt8) (at_ : Int) (right : Bool), (movedPre e at_) →
  (at_ < e.fst → at_ = moved e at_ right) ∧
  (¬at_ < e.fst →
    (¬(e.snd.fst = 0 ∧ e.fst < at_) → 0 < e.snd.fst → inI64 (e.fst + e.snd.fst)) ∧
      (e.snd.fst = 0 ∧ e.fst < at_ ∨ 0 < e.snd.fst ∧ e.fst + e.snd.fst ≤ at_ →
          inI64 (at_ + (↑e.snd.snd.length : Int)) ∧
            inI64 (at_ + (↑e.snd.snd.length : Int) - e.snd.fst) ∧
              at_ + (↑e.snd.snd.length : Int) - e.snd.fst = moved e at_ right) ∧
        (¬(e.snd.fst = 0 ∧ e.fst < at_ ∨ 0 < e.snd.fst ∧ e.fst + e.snd.fst ≤ at_) →
          (right = true →
              inI64 (e.fst + (↑e.snd.snd.length : Int)) ∧ e.fst + (↑e.snd.snd.length : Int) = moved e at_ right) ∧
            (¬right = true → e.fst = moved e at_ right)))) :
    Con Try.prog f_edit_Moved edit_Moved_ct := fun x hx =>
  con_eq hC (L := []) (trivial) edit_Moved_ok (ct := edit_Moved_ct) (depth := 0) (by kernel_rfl) x (H (@id ((Int × Int × List UInt8) × Int × Bool) x).1 (@id ((Int × Int × List UInt8) × Int × Bool) x).2.1 (@id ((Int × Int × List UInt8) × Int × Bool) x).2.2 (mpr' hx (by kernel_rfl))) (by kernel_rfl)

theorem edit_Place_vc (hC : Cons Try.prog [(f_edit_Moved, edit_Moved_ct)])
    (H : ∀ (e : Int × Int × List UInt8) (at_ : Int) (right : Bool), (fitS e.snd.snd) →
  ∃ (I : Int → Prop),
  ∃ (m : Int → Nat),
    (e.fst = e.fst ∧ e.snd.fst = e.snd.fst ∧ e.snd.snd = e.snd.snd ∧ I 0) ∧
      ∀ (x : Int),
        I x →
          (x < 3 →
              0 ≤ x ∧
                x < (↑3 : Int) ∧
                  (iteP (x = (↑0 : Int)) e.fst (iteP (x = (↑(0 + 1) : Int)) e.snd.fst at_) < 0 ∨
                        1099511627776 < iteP (x = (↑0 : Int)) e.fst (iteP (x = (↑(0 + 1) : Int)) e.snd.fst at_) →
                      0 = (placed e at_ right).fst ∧ 2 = (placed e at_ right).snd) ∧
                    (¬(iteP (x = (↑0 : Int)) e.fst (iteP (x = (↑(0 + 1) : Int)) e.snd.fst at_) < 0 ∨
                          1099511627776 < iteP (x = (↑0 : Int)) e.fst (iteP (x = (↑(0 + 1) : Int)) e.snd.fst at_)) →
                      inI64 (x + 1) ∧
                        e.fst = e.fst ∧ e.snd.fst = e.snd.fst ∧ e.snd.snd = e.snd.snd ∧ I (x + 1) ∧ m (x + 1) < m x)) ∧
            (¬x < 3 →
              movedPre (e.fst, e.snd.fst, e.snd.snd) at_ ∧
                moved (e.fst, e.snd.fst, e.snd.snd) at_ right = (placed e at_ right).fst ∧ 0 = (placed e at_ right).snd)) :
    Con Try.prog f_edit_Place edit_Place_ct := fun x hx =>
  con_eq hC (L := []) (trivial) edit_Place_ok (ct := edit_Place_ct) (depth := 0) (by kernel_rfl) x (H (@id ((Int × Int × List UInt8) × Int × Bool) x).1 (@id ((Int × Int × List UInt8) × Int × Bool) x).2.1 (@id ((Int × Int × List UInt8) × Int × Bool) x).2.2 (mpr' hx (by kernel_rfl))) (by kernel_rfl)

theorem ref_editPlace_vc (hC : Cons Try.prog [])
    (H : ∀ (e : Int × Int × List UInt8) (at_ : Int) (right : Bool), (movedPre e at_) →
  (at_ < e.fst → at_ = moved e at_ right) ∧
  (¬at_ < e.fst →
    inI64 (e.fst + e.snd.fst) ∧
      (e.fst + e.snd.fst ≤ at_ ∧ ¬(e.snd.fst = 0 ∧ at_ = e.fst) →
          inI64 (at_ - e.snd.fst) ∧
            inI64 (at_ - e.snd.fst + (↑e.snd.snd.length : Int)) ∧
              at_ - e.snd.fst + (↑e.snd.snd.length : Int) = moved e at_ right) ∧
        (¬(e.fst + e.snd.fst ≤ at_ ∧ ¬(e.snd.fst = 0 ∧ at_ = e.fst)) →
          (right = true →
              inI64 (e.fst + (↑e.snd.snd.length : Int)) ∧ e.fst + (↑e.snd.snd.length : Int) = moved e at_ right) ∧
            (¬right = true → e.fst = moved e at_ right)))) :
    Con Try.prog f_ref_editPlace ref_editPlace_ct := fun x hx =>
  con_eq hC (L := []) (trivial) ref_editPlace_ok (ct := ref_editPlace_ct) (depth := 0) (by kernel_rfl) x (H (@id ((Int × Int × List UInt8) × Int × Bool) x).1 (@id ((Int × Int × List UInt8) × Int × Bool) x).2.1 (@id ((Int × Int × List UInt8) × Int × Bool) x).2.2 (mpr' hx (by kernel_rfl))) (by kernel_rfl)

theorem ref_EditPlace_vc (hC : Cons Try.prog [(f_ref_editPlace, ref_editPlace_ct)])
    (H : ∀ (e : Int × Int × List UInt8) (at_ : Int) (right : Bool), (fitS e.snd.snd) →
  (((((e.fst < 0 ∨ e.snd.fst < 0) ∨ at_ < 0) ∨ 1099511627776 < e.fst) ∨ 1099511627776 < e.snd.fst) ∨ 1099511627776 < at_ →
    0 = (placed e at_ right).fst ∧ 2 = (placed e at_ right).snd) ∧
  (¬(((((e.fst < 0 ∨ e.snd.fst < 0) ∨ at_ < 0) ∨ 1099511627776 < e.fst) ∨ 1099511627776 < e.snd.fst) ∨
        1099511627776 < at_) →
    movedPre (e.fst, e.snd.fst, e.snd.snd) at_ ∧
      moved (e.fst, e.snd.fst, e.snd.snd) at_ right = (placed e at_ right).fst ∧ 0 = (placed e at_ right).snd)) :
    Con Try.prog f_ref_EditPlace ref_EditPlace_ct := fun x hx =>
  con_eq hC (L := []) (trivial) ref_EditPlace_ok (ct := ref_EditPlace_ct) (depth := 0) (by kernel_rfl) x (H (@id ((Int × Int × List UInt8) × Int × Bool) x).1 (@id ((Int × Int × List UInt8) × Int × Bool) x).2.1 (@id ((Int × Int × List UInt8) × Int × Bool) x).2.2 (mpr' hx (by kernel_rfl))) (by kernel_rfl)

theorem law_EditPlaces_vc (hC : Cons Try.prog [(f_edit_Place, edit_Place_ct), (f_ref_EditPlace, ref_EditPlace_ct)])
    (H : ∀ (x : Int × Int × List UInt8) (at_ : Int) (right : Bool), (((IntKind.i64.min ≤ x.1 ∧ x.1 ≤ IntKind.i64.max) ∧
    (IntKind.i64.min ≤ x.2.1 ∧ x.2.1 ≤ IntKind.i64.max) ∧ x.2.2.length.le 140737488351232) ∧
  (IntKind.i64.min ≤ at_ ∧ at_ ≤ IntKind.i64.max) ∧ True) →
  fitS x.snd.snd ∧
  fitS x.snd.snd ∧
    bo
        ((placed (x.fst, x.snd.fst, x.snd.snd) at_ right).fst = (placed (x.fst, x.snd.fst, x.snd.snd) at_ right).fst ∧
          (placed (x.fst, x.snd.fst, x.snd.snd) at_ right).snd = (placed (x.fst, x.snd.fst, x.snd.snd) at_ right).snd) =
      true) :
    Con Try.prog f_law_EditPlaces law_EditPlaces_ct := fun x hx =>
  con_eq hC (L := []) (trivial) law_EditPlaces_ok (ct := law_EditPlaces_ct) (depth := 0) (by kernel_rfl) x (H (@id ((Int × Int × List UInt8) × Int × Bool) x).1 (@id ((Int × Int × List UInt8) × Int × Bool) x).2.1 (@id ((Int × Int × List UInt8) × Int × Bool) x).2.2 (mpr' hx (by kernel_rfl))) (by kernel_rfl)

end Go.Proofs.Ytgnhlecfladigaa
