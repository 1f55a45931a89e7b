/- The typed conditions of the functions, printed by a program of the claim's author; each gives the contract of its function. Conditions: none. -/
import Derived.Test.YtcgggoaefceokaaGWrapChecks
import Derived.Test.YtcgggoaefceokaaVpA
import Derived.Test.YtcgggoaefceokaaVpB
import Derived.Test.YtcgggoaefceokaaVpC
import Derived.Test.YtcgggoaefceokaaVpE
import Derived.Test.YtcgggoaefceokaaVpF
import Derived.Test.YtcgggoaefceokaaBase
set_option linter.unusedVariables false
set_option linter.unusedSimpArgs false
set_option maxRecDepth 100000
namespace Go.Proofs.Ytcgggoaefceokaa
open Go.Vc Go.Fu

theorem wrap_Check_vc (hC : Cons Try.prog [])
    (H : ∀ (widths : List Int) (wide : Int), (True) →
  ((80 : Int) < (↑widths.length : Int) → (1 : Int) = wrapFault widths wide) ∧
  (¬(80 : Int) < (↑widths.length : Int) →
    (wide < (1 : Int) ∨ (60 : Int) < wide → (2 : Int) = wrapFault widths wide) ∧
      (¬(wide < (1 : Int) ∨ (60 : Int) < wide) →
        ∃ (I : Int → Int → Prop),
          ∃ (m : Int → Int → Nat),
            I (0 : Int) wide ∧
              ∀ (x f : Int),
                I x f →
                  (x < (↑widths.length : Int) →
                      (0 : Int) ≤ x ∧
                        x < (↑widths.length : Int) ∧
                          (gt widths x < (1 : Int) ∨ f < gt widths x →
                              ((0 : Int) ≤ x → (2 : Int) = wrapFault widths wide) ∧
                                (¬(0 : Int) ≤ x → (0 : Int) = wrapFault widths wide)) ∧
                            (¬(gt widths x < (1 : Int) ∨ f < gt widths x) →
                              inI64 (x + (1 : Int)) ∧ I (x + (1 : Int)) f ∧ m (x + (1 : Int)) f < m x f)) ∧
                    (¬x < (↑widths.length : Int) →
                      ((0 : Int) ≤ (-1 : Int) → (2 : Int) = wrapFault widths wide) ∧
                        (¬(0 : Int) ≤ (-1 : Int) → (0 : Int) = wrapFault widths wide))))) :
    Con Try.prog f_wrap_Check wrap_Check_ct := fun x hx =>
  con_eq hC (L := [(f_slices_ContainsFunc___int_int_, slices_ContainsFunc___int_int__fi), (f_slices_IndexFunc___int_int_, slices_IndexFunc___int_int__fi), (f_wrap_Check_1, wrap_Check_1_fi)]) (⟨slices_ContainsFunc___int_int__ok, slices_IndexFunc___int_int__ok, wrap_Check_1_ok, trivial⟩) wrap_Check_ok (ct := wrap_Check_ct) (depth := 4) (by kernel_rfl) x (H (@id (List Int × Int) x).1 (@id (List Int × Int) x).2 (mpr' hx (by kernel_rfl))) (by kernel_rfl)

theorem ref_WrapFault_vc (hC : Cons Try.prog [])
    (H : ∀ (widths : List Int) (wide : Int), (True) →
  (80 < (↑widths.length : Int) → 1 = wrapFault widths wide) ∧
  (¬80 < (↑widths.length : Int) →
    (wide < 1 ∨ 60 < wide → 2 = wrapFault widths wide) ∧
      (¬(wide < 1 ∨ 60 < wide) →
        ∃ (I : Int → Prop),
          ∃ (m : Int → Nat),
            I 0 ∧
              ∀ (x : Int),
                I x →
                  (x < (↑widths.length : Int) →
                      0 ≤ x ∧
                        x < (↑widths.length : Int) ∧
                          (gt widths x < 1 ∨ wide < gt widths x → 2 = wrapFault widths wide) ∧
                            (¬(gt widths x < 1 ∨ wide < gt widths x) → inI64 (x + 1) ∧ I (x + 1) ∧ m (x + 1) < m x)) ∧
                    (¬x < (↑widths.length : Int) → 0 = wrapFault widths wide)))) :
    Con Try.prog f_ref_WrapFault ref_WrapFault_ct := fun x hx =>
  con_eq hC (L := []) (trivial) ref_WrapFault_ok (ct := ref_WrapFault_ct) (depth := 0) (by kernel_rfl) x (H (@id (List Int × Int) x).1 (@id (List Int × Int) x).2 (mpr' hx (by kernel_rfl))) (by kernel_rfl)

theorem law_WrapChecks_vc (hC : Cons Try.prog [(f_wrap_Check, wrap_Check_ct), (f_ref_WrapFault, ref_WrapFault_ct)])
    (H : ∀ (widths : List Int) (wide : Int), ((widths.length ≤ 140737488351232 ∧ ∀ (x : Int), List.Mem x widths → IntKind.i64.min ≤ x ∧ x ≤ IntKind.i64.max) ∧
  IntKind.i64.min ≤ wide ∧ wide ≤ IntKind.i64.max) →
  True ∧ True ∧ bo (wrapFault widths wide = wrapFault widths wide) = true) :
    Con Try.prog f_law_WrapChecks law_WrapChecks_ct := fun x hx =>
  con_eq hC (L := []) (trivial) law_WrapChecks_ok (ct := law_WrapChecks_ct) (depth := 0) (by kernel_rfl) x (H (@id (List Int × Int) x).1 (@id (List Int × Int) x).2 (mpr' hx (by kernel_rfl))) (by kernel_rfl)

end Go.Proofs.Ytcgggoaefceokaa
