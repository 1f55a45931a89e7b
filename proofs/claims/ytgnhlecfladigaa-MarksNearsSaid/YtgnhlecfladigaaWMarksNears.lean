/- The typed conditions of the functions, printed by a program of the claim's author; each gives the contract of its function. Conditions: none. -/
import Derived.Test.YtgnhlecfladigaaGMarksNears
import Derived.Test.YtgnhlecfladigaaVpA
import Derived.Test.YtgnhlecfladigaaVpB
import Derived.Test.YtgnhlecfladigaaVpC
import Derived.Test.YtgnhlecfladigaaBase
set_option linter.unusedVariables false
set_option linter.unusedSimpArgs false
set_option maxRecDepth 100000
namespace Go.Proofs.Ytgnhlecfladigaa
open Go.Vc Go.Fu

theorem marks_Near_vc (hC : Cons Try.prog [])
    (H : ∀ (ms : List (Int × Bool)) (at_ : Int) (right : Bool), (True) →
  (60 < (↑ms.length : Int) → 0 = (marksNear ms at_ right).fst ∧ 1 = (marksNear ms at_ right).snd) ∧
  (¬60 < (↑ms.length : Int) →
    ∃ (I : Int → Int → Prop),
      ∃ (m : Int → Int → Nat),
        I (-1) 0 ∧
          ∀ (best x : Int),
            I best x →
              (x < (↑ms.length : Int) →
                  0 ≤ x ∧
                    x < (↑ms.length : Int) ∧
                      (right = true ∧ (gt ms x).fst < at_ ∨ ¬right = true ∧ at_ < (gt ms x).fst →
                          inI64 (x + 1) ∧ I best (x + 1) ∧ m best (x + 1) < m best x) ∧
                        (¬(right = true ∧ (gt ms x).fst < at_ ∨ ¬right = true ∧ at_ < (gt ms x).fst) →
                          (¬best < 0 → right = true → 0 ≤ best) ∧
                            (¬best < 0 → right = true → best < (↑ms.length : Int)) ∧
                              (¬best < 0 →
                                  ¬(right = true ∧ (gt ms x).fst < (gt ms best).fst) → ¬right = true → 0 ≤ best) ∧
                                (¬best < 0 →
                                    ¬(right = true ∧ (gt ms x).fst < (gt ms best).fst) →
                                      ¬right = true → best < (↑ms.length : Int)) ∧
                                  (best < 0 ∨
                                        right = true ∧ (gt ms x).fst < (gt ms best).fst ∨
                                          ¬right = true ∧ (gt ms best).fst < (gt ms x).fst →
                                      inI64 (x + 1) ∧ I x (x + 1) ∧ m x (x + 1) < m best x) ∧
                                    (¬(best < 0 ∨
                                          right = true ∧ (gt ms x).fst < (gt ms best).fst ∨
                                            ¬right = true ∧ (gt ms best).fst < (gt ms x).fst) →
                                      inI64 (x + 1) ∧ I best (x + 1) ∧ m best (x + 1) < m best x))) ∧
                (¬x < (↑ms.length : Int) →
                  (best < 0 → 0 = (marksNear ms at_ right).fst ∧ 7 = (marksNear ms at_ right).snd) ∧
                    (¬best < 0 → best = (marksNear ms at_ right).fst ∧ 0 = (marksNear ms at_ right).snd)))) :
    Con Try.prog f_marks_Near marks_Near_ct := fun x hx =>
  con_eq hC (L := []) (trivial) marks_Near_ok (ct := marks_Near_ct) (depth := 0) (by kernel_rfl) x (H (@id ((List (Int × Bool)) × Int × Bool) x).1 (@id ((List (Int × Bool)) × Int × Bool) x).2.1 (@id ((List (Int × Bool)) × Int × Bool) x).2.2 (mpr' hx (by kernel_rfl))) (by kernel_rfl)

theorem ref_MarksNear_vc (hC : Cons Try.prog [])
    (H : ∀ (ms : List (Int × Bool)) (at_ : Int) (right : Bool), (True) →
  (60 < (↑ms.length : Int) → 0 = (marksNear ms at_ right).fst ∧ 1 = (marksNear ms at_ right).snd) ∧
  (¬60 < (↑ms.length : Int) →
    inI64 ((↑ms.length : Int) - 1) ∧
      ∃ (I : Bool → Int → Int → Prop),
        ∃ (m : Bool → Int → Int → Nat),
          I false 0 ((↑ms.length : Int) - 1) ∧
            ∀ (found : Bool) (best i : Int),
              I found best i →
                (0 ≤ i →
                    0 ≤ i ∧
                      i < (↑ms.length : Int) ∧
                        (right = true ∧ (gt ms i).fst < at_ ∨ ¬right = true ∧ at_ < (gt ms i).fst →
                            inI64 (i - 1) ∧ I found best (i - 1) ∧ m found best (i - 1) < m found best i) ∧
                          (¬(right = true ∧ (gt ms i).fst < at_ ∨ ¬right = true ∧ at_ < (gt ms i).fst) →
                            (¬¬found = true ∧ right = true → 0 ≤ best) ∧
                              (¬¬found = true ∧ right = true → best < (↑ms.length : Int)) ∧
                                (¬(¬found = true ∨ right = true ∧ (gt ms i).fst ≤ (gt ms best).fst) ∧ ¬right = true →
                                    0 ≤ best) ∧
                                  (¬(¬found = true ∨ right = true ∧ (gt ms i).fst ≤ (gt ms best).fst) ∧ ¬right = true →
                                      best < (↑ms.length : Int)) ∧
                                    ((¬found = true ∨ right = true ∧ (gt ms i).fst ≤ (gt ms best).fst) ∨
                                          ¬right = true ∧ (gt ms best).fst ≤ (gt ms i).fst →
                                        inI64 (i - 1) ∧ I true i (i - 1) ∧ m true i (i - 1) < m found best i) ∧
                                      (¬((¬found = true ∨ right = true ∧ (gt ms i).fst ≤ (gt ms best).fst) ∨
                                            ¬right = true ∧ (gt ms best).fst ≤ (gt ms i).fst) →
                                        inI64 (i - 1) ∧
                                          I found best (i - 1) ∧ m found best (i - 1) < m found best i))) ∧
                  (¬0 ≤ i →
                    (¬found = true → 0 = (marksNear ms at_ right).fst ∧ 7 = (marksNear ms at_ right).snd) ∧
                      (¬¬found = true → best = (marksNear ms at_ right).fst ∧ 0 = (marksNear ms at_ right).snd)))) :
    Con Try.prog f_ref_MarksNear ref_MarksNear_ct := fun x hx =>
  con_eq hC (L := []) (trivial) ref_MarksNear_ok (ct := ref_MarksNear_ct) (depth := 0) (by kernel_rfl) x (H (@id ((List (Int × Bool)) × Int × Bool) x).1 (@id ((List (Int × Bool)) × Int × Bool) x).2.1 (@id ((List (Int × Bool)) × Int × Bool) x).2.2 (mpr' hx (by kernel_rfl))) (by kernel_rfl)

theorem law_MarksNears_vc (hC : Cons Try.prog [(f_marks_Near, marks_Near_ct), (f_ref_MarksNear, ref_MarksNear_ct)])
    (H : ∀ (ms : List (Int × Bool)) (at_ : Int) (right : Bool), ((ms.length ≤ 140737488351232 ∧
    ∀ (x : Int × Bool), List.Mem x ms → (IntKind.i64.min ≤ x.1 ∧ x.1 ≤ IntKind.i64.max) ∧ True) ∧
  (IntKind.i64.min ≤ at_ ∧ at_ ≤ IntKind.i64.max) ∧ True) →
  True ∧
  True ∧
    bo
        ((marksNear ms at_ right).fst = (marksNear ms at_ right).fst ∧
          (marksNear ms at_ right).snd = (marksNear ms at_ right).snd) =
      true) :
    Con Try.prog f_law_MarksNears law_MarksNears_ct := fun x hx =>
  con_eq hC (L := []) (trivial) law_MarksNears_ok (ct := law_MarksNears_ct) (depth := 0) (by kernel_rfl) x (H (@id ((List (Int × Bool)) × Int × Bool) x).1 (@id ((List (Int × Bool)) × Int × Bool) x).2.1 (@id ((List (Int × Bool)) × Int × Bool) x).2.2 (mpr' hx (by kernel_rfl))) (by kernel_rfl)

end Go.Proofs.Ytgnhlecfladigaa
