/- The typed conditions of the functions, printed by a program of the claim's author; each gives the contract of its function. Conditions: none. -/
import Derived.Test.YtmknkkafindicaaGWrapCosts
import Derived.Test.YtmknkkafindicaaVpA
import Derived.Test.YtmknkkafindicaaVpB
import Derived.Test.YtmknkkafindicaaVpC
import Derived.Test.YtmknkkafindicaaVpE
import Derived.Test.YtmknkkafindicaaVpF
import Derived.Test.YtmknkkafindicaaVpN
import Derived.Test.YtmknkkafindicaaBase
set_option linter.unusedVariables false
set_option linter.unusedSimpArgs false
set_option maxRecDepth 100000
namespace Go.Proofs.Ytmknkkafindicaa
open Go.Vc Go.Fu

theorem wrap_Check_vc (hC : Cons Try.prog [])
    (H : ∀ (widths : List Int) (wide : Int), (True) →
  ((80 : Int) < (↑widths.length : Int) → (1 : Int) = wrapFault widths wide) ∧
  (¬(80 : Int) < (↑widths.length : Int) →
    (wide < (1 : Int) ∨ (60 : Int) < wide → (2 : Int) = wrapFault widths wide) ∧
      (¬(wide < (1 : Int) ∨ (60 : Int) < wide) →
        ∃ (I : Int → Int → Prop),
          ∃ (m : Int → Int → Nat),
            I (0 : Int) wide ∧
              ∀ (x f : Int),
                I x f →
                  (x < (↑widths.length : Int) →
                      (0 : Int) ≤ x ∧
                        x < (↑widths.length : Int) ∧
                          (gt widths x < (1 : Int) ∨ f < gt widths x →
                              ((0 : Int) ≤ x → (2 : Int) = wrapFault widths wide) ∧
                                (¬(0 : Int) ≤ x → (0 : Int) = wrapFault widths wide)) ∧
                            (¬(gt widths x < (1 : Int) ∨ f < gt widths x) →
                              inI64 (x + (1 : Int)) ∧ I (x + (1 : Int)) f ∧ m (x + (1 : Int)) f < m x f)) ∧
                    (¬x < (↑widths.length : Int) →
                      ((0 : Int) ≤ (-1 : Int) → (2 : Int) = wrapFault widths wide) ∧
                        (¬(0 : Int) ≤ (-1 : Int) → (0 : Int) = wrapFault widths wide))))) :
    Con Try.prog f_wrap_Check wrap_Check_ct := ⟨wrap_Check_ok.able, fun x hx =>
  con_eq hC (L := [(f_slices_ContainsFunc___int_int_, slices_ContainsFunc___int_int__fi), (f_slices_IndexFunc___int_int_, slices_IndexFunc___int_int__fi), (f_wrap_Check_1, wrap_Check_1_fi)]) (⟨slices_ContainsFunc___int_int__ok, slices_IndexFunc___int_int__ok, wrap_Check_1_ok, trivial⟩) wrap_Check_ok (ct := wrap_Check_ct) (depth := 4) (by kernel_rfl) x (H (@id (List Int × Int) x).1 (@id (List Int × Int) x).2 (mpr' hx (by kernel_rfl))) (by kernel_rfl)⟩

theorem wrap_left_vc (hC : Cons Try.prog [])
    (H : ∀ (words : List Int) (wide : Int), (leftPre words wide) →
  inI64 (wide + 1) ∧
  ∃ (I : Int → Int → Prop),
    ∃ (m : Int → Int → Nat),
      I (wide + 1) 0 ∧
        ∀ (free x : Int),
          I free x →
            (x < (↑words.length : Int) →
                0 ≤ x ∧
                  x < (↑words.length : Int) ∧
                    inI64 (gt words x + 1) ∧
                      inI64 (free - (gt words x + 1)) ∧
                        inI64 (x + 1) ∧
                          I (free - (gt words x + 1)) (x + 1) ∧ m (free - (gt words x + 1)) (x + 1) < m free x) ∧
              (¬x < (↑words.length : Int) → free = wrapLeft words wide)) :
    Con Try.prog f_wrap_left wrap_left_ct := ⟨wrap_left_ok.able, fun x hx =>
  con_eq hC (L := []) (trivial) wrap_left_ok (ct := wrap_left_ct) (depth := 0) (by kernel_rfl) x (H (@id (List Int × Int) x).1 (@id (List Int × Int) x).2 (mpr' hx (by kernel_rfl))) (by kernel_rfl)⟩

theorem wrap_Cost_vc (hC : Cons Try.prog [(f_wrap_Check, wrap_Check_ct), (f_wrap_left, wrap_left_ct)])
    (H : ∀ (widths : List Int) (wide : Int) (starts : List Int), (fitL starts) →
  True ∧
  (wrapFault widths wide ≠ (0 : Int) →
      (0 : Int) = (wrapCost widths wide starts).fst ∧ wrapFault widths wide = (wrapCost widths wide starts).snd) ∧
    (¬wrapFault widths wide ≠ (0 : Int) →
      (¬¬((↑widths.length : Int) = (0 : Int) ↔ (↑starts.length : Int) = (0 : Int)) ∧
            (0 : Int) < (↑starts.length : Int) →
          (0 : Int) ≤ (0 : Int)) ∧
        (¬¬((↑widths.length : Int) = (0 : Int) ↔ (↑starts.length : Int) = (0 : Int)) ∧
              (0 : Int) < (↑starts.length : Int) →
            (0 : Int) < (↑starts.length : Int)) ∧
          (¬((↑widths.length : Int) = (0 : Int) ↔ (↑starts.length : Int) = (0 : Int)) ∨
                (0 : Int) < (↑starts.length : Int) ∧ gt starts (0 : Int) ≠ (0 : Int) →
              (0 : Int) = (wrapCost widths wide starts).fst ∧ (4 : Int) = (wrapCost widths wide starts).snd) ∧
            (¬(¬((↑widths.length : Int) = (0 : Int) ↔ (↑starts.length : Int) = (0 : Int)) ∨
                  (0 : Int) < (↑starts.length : Int) ∧ gt starts (0 : Int) ≠ (0 : Int)) →
              ∃ (I : Int → Int → Prop),
                ∃ (m : Int → Int → Nat),
                  I (0 : Int) (0 : Int) ∧
                    ∀ (cost x : Int),
                      I cost x →
                        (x < (↑starts.length : Int) →
                            (0 : Int) ≤ x ∧
                              x < (↑starts.length : Int) ∧
                                inI64 (x + (1 : Int)) ∧
                                  (x + (1 : Int) < (↑starts.length : Int) → inI64 (x + (1 : Int))) ∧
                                    (x + (1 : Int) < (↑starts.length : Int) → (0 : Int) ≤ x + (1 : Int)) ∧
                                      (x + (1 : Int) < (↑starts.length : Int) →
                                          x + (1 : Int) < (↑starts.length : Int)) ∧
                                        (iteP (x + (1 : Int) < (↑starts.length : Int)) (gt starts (x + (1 : Int)))
                                                  (↑widths.length : Int) ≤
                                                gt starts x ∨
                                              (↑widths.length : Int) <
                                                iteP (x + (1 : Int) < (↑starts.length : Int))
                                                  (gt starts (x + (1 : Int))) (↑widths.length : Int) →
                                            (0 : Int) = (wrapCost widths wide starts).fst ∧
                                              (4 : Int) = (wrapCost widths wide starts).snd) ∧
                                          (¬(iteP (x + (1 : Int) < (↑starts.length : Int)) (gt starts (x + (1 : Int)))
                                                    (↑widths.length : Int) ≤
                                                  gt starts x ∨
                                                (↑widths.length : Int) <
                                                  iteP (x + (1 : Int) < (↑starts.length : Int))
                                                    (gt starts (x + (1 : Int))) (↑widths.length : Int)) →
                                            (0 : Int) ≤ gt starts x ∧
                                              gt starts x ≤
                                                  iteP (x + (1 : Int) < (↑starts.length : Int))
                                                    (gt starts (x + (1 : Int))) (↑widths.length : Int) ∧
                                                iteP (x + (1 : Int) < (↑starts.length : Int))
                                                      (gt starts (x + (1 : Int))) (↑widths.length : Int) ≤
                                                    (↑widths.length : Int) ∧
                                                  leftPre
                                                      (List.drop (gt starts x).toNat
                                                        (List.take
                                                          (iteP (x + (1 : Int) < (↑starts.length : Int))
                                                              (gt starts (x + (1 : Int))) (↑widths.length : Int)).toNat
                                                          widths))
                                                      wide ∧
                                                    (wrapLeft
                                                            (List.drop (gt starts x).toNat
                                                              (List.take
                                                                (iteP (x + (1 : Int) < (↑starts.length : Int))
                                                                    (gt starts (x + (1 : Int)))
                                                                    (↑widths.length : Int)).toNat
                                                                widths))
                                                            wide <
                                                          (0 : Int) →
                                                        (0 : Int) = (wrapCost widths wide starts).fst ∧
                                                          (4 : Int) = (wrapCost widths wide starts).snd) ∧
                                                      (¬wrapLeft
                                                              (List.drop (gt starts x).toNat
                                                                (List.take
                                                                  (iteP (x + (1 : Int) < (↑starts.length : Int))
                                                                      (gt starts (x + (1 : Int)))
                                                                      (↑widths.length : Int)).toNat
                                                                  widths))
                                                              wide <
                                                            (0 : Int) →
                                                        inI64 (x + (1 : Int)) ∧
                                                          (x + (1 : Int) < (↑starts.length : Int) →
                                                              inI64
                                                                  (wrapLeft
                                                                      (List.drop (gt starts x).toNat
                                                                        (List.take
                                                                          (iteP (x + (1 : Int) < (↑starts.length : Int))
                                                                              (gt starts (x + (1 : Int)))
                                                                              (↑widths.length : Int)).toNat
                                                                          widths))
                                                                      wide *
                                                                    wrapLeft
                                                                      (List.drop (gt starts x).toNat
                                                                        (List.take
                                                                          (iteP (x + (1 : Int) < (↑starts.length : Int))
                                                                              (gt starts (x + (1 : Int)))
                                                                              (↑widths.length : Int)).toNat
                                                                          widths))
                                                                      wide) ∧
                                                                inI64
                                                                    (cost +
                                                                      wrapLeft
                                                                          (List.drop (gt starts x).toNat
                                                                            (List.take
                                                                              (iteP
                                                                                  (x + (1 : Int) <
                                                                                    (↑starts.length : Int))
                                                                                  (gt starts (x + (1 : Int)))
                                                                                  (↑widths.length : Int)).toNat
                                                                              widths))
                                                                          wide *
                                                                        wrapLeft
                                                                          (List.drop (gt starts x).toNat
                                                                            (List.take
                                                                              (iteP
                                                                                  (x + (1 : Int) <
                                                                                    (↑starts.length : Int))
                                                                                  (gt starts (x + (1 : Int)))
                                                                                  (↑widths.length : Int)).toNat
                                                                              widths))
                                                                          wide) ∧
                                                                  inI64 (x + (1 : Int)) ∧
                                                                    I
                                                                        (cost +
                                                                          wrapLeft
                                                                              (List.drop (gt starts x).toNat
                                                                                (List.take
                                                                                  (iteP
                                                                                      (x + (1 : Int) <
                                                                                        (↑starts.length : Int))
                                                                                      (gt starts (x + (1 : Int)))
                                                                                      (↑widths.length : Int)).toNat
                                                                                  widths))
                                                                              wide *
                                                                            wrapLeft
                                                                              (List.drop (gt starts x).toNat
                                                                                (List.take
                                                                                  (iteP
                                                                                      (x + (1 : Int) <
                                                                                        (↑starts.length : Int))
                                                                                      (gt starts (x + (1 : Int)))
                                                                                      (↑widths.length : Int)).toNat
                                                                                  widths))
                                                                              wide)
                                                                        (x + (1 : Int)) ∧
                                                                      m
                                                                          (cost +
                                                                            wrapLeft
                                                                                (List.drop (gt starts x).toNat
                                                                                  (List.take
                                                                                    (iteP
                                                                                        (x + (1 : Int) <
                                                                                          (↑starts.length : Int))
                                                                                        (gt starts (x + (1 : Int)))
                                                                                        (↑widths.length : Int)).toNat
                                                                                    widths))
                                                                                wide *
                                                                              wrapLeft
                                                                                (List.drop (gt starts x).toNat
                                                                                  (List.take
                                                                                    (iteP
                                                                                        (x + (1 : Int) <
                                                                                          (↑starts.length : Int))
                                                                                        (gt starts (x + (1 : Int)))
                                                                                        (↑widths.length : Int)).toNat
                                                                                    widths))
                                                                                wide)
                                                                          (x + (1 : Int)) <
                                                                        m cost x) ∧
                                                            (¬x + (1 : Int) < (↑starts.length : Int) →
                                                              inI64 (x + (1 : Int)) ∧
                                                                I cost (x + (1 : Int)) ∧
                                                                  m cost (x + (1 : Int)) < m cost x)))) ∧
                          (¬x < (↑starts.length : Int) →
                            cost = (wrapCost widths wide starts).fst ∧ (0 : Int) = (wrapCost widths wide starts).snd)))) :
    Con Try.prog f_wrap_Cost wrap_Cost_ct := ⟨wrap_Cost_ok.able, fun x hx =>
  con_eq hC (L := []) (trivial) wrap_Cost_ok (ct := wrap_Cost_ct) (depth := 0) (by kernel_rfl) x (H (@id (List Int × Int × List Int) x).1 (@id (List Int × Int × List Int) x).2.1 (@id (List Int × Int × List Int) x).2.2 (mpr' hx (by kernel_rfl))) (by kernel_rfl)⟩

theorem ref_WrapFault_vc (hC : Cons Try.prog [])
    (H : ∀ (widths : List Int) (wide : Int), (True) →
  (80 < (↑widths.length : Int) → 1 = wrapFault widths wide) ∧
  (¬80 < (↑widths.length : Int) →
    (wide < 1 ∨ 60 < wide → 2 = wrapFault widths wide) ∧
      (¬(wide < 1 ∨ 60 < wide) →
        ∃ (I : Int → Prop),
          ∃ (m : Int → Nat),
            I 0 ∧
              ∀ (x : Int),
                I x →
                  (x < (↑widths.length : Int) →
                      0 ≤ x ∧
                        x < (↑widths.length : Int) ∧
                          (gt widths x < 1 ∨ wide < gt widths x → 2 = wrapFault widths wide) ∧
                            (¬(gt widths x < 1 ∨ wide < gt widths x) → inI64 (x + 1) ∧ I (x + 1) ∧ m (x + 1) < m x)) ∧
                    (¬x < (↑widths.length : Int) → 0 = wrapFault widths wide)))) :
    Con Try.prog f_ref_WrapFault ref_WrapFault_ct := ⟨ref_WrapFault_ok.able, fun x hx =>
  con_eq hC (L := []) (trivial) ref_WrapFault_ok (ct := ref_WrapFault_ct) (depth := 0) (by kernel_rfl) x (H (@id (List Int × Int) x).1 (@id (List Int × Int) x).2 (mpr' hx (by kernel_rfl))) (by kernel_rfl)⟩

theorem ref_lineWide_vc (hC : Cons Try.prog [])
    (H : ∀ (words : List Int), (wideOk words) →
  inI64 ((↑words.length : Int) - 1) ∧
  ∃ (I : Int → Int → Prop),
    ∃ (m : Int → Int → Nat),
      I ((↑words.length : Int) - 1) 0 ∧
        ∀ (n x : Int),
          I n x →
            (x < (↑words.length : Int) →
                0 ≤ x ∧
                  x < (↑words.length : Int) ∧
                    inI64 (n + gt words x) ∧
                      inI64 (x + 1) ∧ I (n + gt words x) (x + 1) ∧ m (n + gt words x) (x + 1) < m n x) ∧
              (¬x < (↑words.length : Int) → n = lineWide words)) :
    Con Try.prog f_ref_lineWide ref_lineWide_ct := ⟨ref_lineWide_ok.able, fun x hx =>
  con_eq hC (L := []) (trivial) ref_lineWide_ok (ct := ref_lineWide_ct) (depth := 0) (by kernel_rfl) x (H (@id (List Int) x) (mpr' hx (by kernel_rfl))) (by kernel_rfl)⟩

theorem ref_WrapCost_vc (hC : Cons Try.prog [(f_ref_WrapFault, ref_WrapFault_ct), (f_ref_lineWide, ref_lineWide_ct)])
    (H : ∀ (widths : List Int) (wide : Int) (starts : List Int), (fitL starts) →
  True ∧
  (wrapFault widths wide ≠ (0 : Int) →
      (0 : Int) = (wrapCost widths wide starts).fst ∧ wrapFault widths wide = (wrapCost widths wide starts).snd) ∧
    (¬wrapFault widths wide ≠ (0 : Int) →
      ((↑widths.length : Int) = (0 : Int) →
          ((0 : Int) < (↑starts.length : Int) →
              (0 : Int) = (wrapCost widths wide starts).fst ∧ (4 : Int) = (wrapCost widths wide starts).snd) ∧
            (¬(0 : Int) < (↑starts.length : Int) →
              (0 : Int) = (wrapCost widths wide starts).fst ∧ (0 : Int) = (wrapCost widths wide starts).snd)) ∧
        (¬(↑widths.length : Int) = (0 : Int) →
          (¬(↑starts.length : Int) = (0 : Int) → (0 : Int) ≤ (0 : Int)) ∧
            (¬(↑starts.length : Int) = (0 : Int) → (0 : Int) < (↑starts.length : Int)) ∧
              ((↑starts.length : Int) = (0 : Int) ∨ gt starts (0 : Int) ≠ (0 : Int) →
                  (0 : Int) = (wrapCost widths wide starts).fst ∧ (4 : Int) = (wrapCost widths wide starts).snd) ∧
                (¬((↑starts.length : Int) = (0 : Int) ∨ gt starts (0 : Int) ≠ (0 : Int)) →
                  ∃ (I : Int → Prop),
                    ∃ (m : Int → Nat),
                      I (0 : Int) ∧
                        ∀ (x : Int),
                          I x →
                            (x < (↑starts.length : Int) →
                                (0 : Int) ≤ x ∧
                                  x < (↑starts.length : Int) ∧
                                    (¬(gt starts x < (0 : Int) ∨ (↑widths.length : Int) ≤ gt starts x) ∧ (0 : Int) < x →
                                        inI64 (x - (1 : Int))) ∧
                                      (¬(gt starts x < (0 : Int) ∨ (↑widths.length : Int) ≤ gt starts x) ∧
                                            (0 : Int) < x →
                                          (0 : Int) ≤ x - (1 : Int)) ∧
                                        (¬(gt starts x < (0 : Int) ∨ (↑widths.length : Int) ≤ gt starts x) ∧
                                              (0 : Int) < x →
                                            x - (1 : Int) < (↑starts.length : Int)) ∧
                                          ((gt starts x < (0 : Int) ∨ (↑widths.length : Int) ≤ gt starts x) ∨
                                                (0 : Int) < x ∧ gt starts x ≤ gt starts (x - (1 : Int)) →
                                              (0 : Int) = (wrapCost widths wide starts).fst ∧
                                                (4 : Int) = (wrapCost widths wide starts).snd) ∧
                                            (¬((gt starts x < (0 : Int) ∨ (↑widths.length : Int) ≤ gt starts x) ∨
                                                  (0 : Int) < x ∧ gt starts x ≤ gt starts (x - (1 : Int))) →
                                              inI64 (x + (1 : Int)) ∧ I (x + (1 : Int)) ∧ m (x + (1 : Int)) < m x)) ∧
                              (¬x < (↑starts.length : Int) →
                                ∃ (I : Int → Int → Prop),
                                  ∃ (m : Int → Int → Nat),
                                    I (0 : Int) (0 : Int) ∧
                                      ∀ (cost x : Int),
                                        I cost x →
                                          (x < (↑starts.length : Int) →
                                              (0 : Int) ≤ x ∧
                                                x < (↑starts.length : Int) ∧
                                                  inI64 (x + (1 : Int)) ∧
                                                    (x + (1 : Int) = (↑starts.length : Int) →
                                                        (0 : Int) ≤ gt starts x ∧
                                                          gt starts x ≤ (↑widths.length : Int) ∧
                                                            (↑widths.length : Int) ≤ (↑widths.length : Int) ∧
                                                              wideOk
                                                                  (List.drop (gt starts x).toNat
                                                                    (List.take (↑widths.length : Int).toNat widths)) ∧
                                                                (wide <
                                                                      lineWide
                                                                        (List.drop (gt starts x).toNat
                                                                          (List.take (↑widths.length : Int).toNat
                                                                            widths)) →
                                                                    (0 : Int) = (wrapCost widths wide starts).fst ∧
                                                                      (4 : Int) = (wrapCost widths wide starts).snd) ∧
                                                                  (¬wide <
                                                                        lineWide
                                                                          (List.drop (gt starts x).toNat
                                                                            (List.take (↑widths.length : Int).toNat
                                                                              widths)) →
                                                                    cost = (wrapCost widths wide starts).fst ∧
                                                                      (0 : Int) = (wrapCost widths wide starts).snd)) ∧
                                                      (¬x + (1 : Int) = (↑starts.length : Int) →
                                                        inI64 (x + (1 : Int)) ∧
                                                          (0 : Int) ≤ x + (1 : Int) ∧
                                                            x + (1 : Int) < (↑starts.length : Int) ∧
                                                              (0 : Int) ≤ gt starts x ∧
                                                                gt starts x ≤ gt starts (x + (1 : Int)) ∧
                                                                  gt starts (x + (1 : Int)) ≤ (↑widths.length : Int) ∧
                                                                    wideOk
                                                                        (List.drop (gt starts x).toNat
                                                                          (List.take (gt starts (x + (1 : Int))).toNat
                                                                            widths)) ∧
                                                                      (wide <
                                                                            lineWide
                                                                              (List.drop (gt starts x).toNat
                                                                                (List.take
                                                                                  (gt starts (x + (1 : Int))).toNat
                                                                                  widths)) →
                                                                          (0 : Int) =
                                                                              (wrapCost widths wide starts).fst ∧
                                                                            (4 : Int) =
                                                                              (wrapCost widths wide starts).snd) ∧
                                                                        (¬wide <
                                                                              lineWide
                                                                                (List.drop (gt starts x).toNat
                                                                                  (List.take
                                                                                    (gt starts (x + (1 : Int))).toNat
                                                                                    widths)) →
                                                                          inI64
                                                                              (wide -
                                                                                lineWide
                                                                                  (List.drop (gt starts x).toNat
                                                                                    (List.take
                                                                                      (gt starts (x + (1 : Int))).toNat
                                                                                      widths))) ∧
                                                                            inI64
                                                                                (wide -
                                                                                  lineWide
                                                                                    (List.drop (gt starts x).toNat
                                                                                      (List.take
                                                                                        (gt starts
                                                                                            (x + (1 : Int))).toNat
                                                                                        widths))) ∧
                                                                              inI64
                                                                                  ((wide -
                                                                                      lineWide
                                                                                        (List.drop (gt starts x).toNat
                                                                                          (List.take
                                                                                            (gt starts
                                                                                                (x + (1 : Int))).toNat
                                                                                            widths))) *
                                                                                    (wide -
                                                                                      lineWide
                                                                                        (List.drop (gt starts x).toNat
                                                                                          (List.take
                                                                                            (gt starts
                                                                                                (x + (1 : Int))).toNat
                                                                                            widths)))) ∧
                                                                                inI64
                                                                                    (cost +
                                                                                      (wide -
                                                                                          lineWide
                                                                                            (List.drop
                                                                                              (gt starts x).toNat
                                                                                              (List.take
                                                                                                (gt starts
                                                                                                    (x +
                                                                                                      (1 : Int))).toNat
                                                                                                widths))) *
                                                                                        (wide -
                                                                                          lineWide
                                                                                            (List.drop
                                                                                              (gt starts x).toNat
                                                                                              (List.take
                                                                                                (gt starts
                                                                                                    (x +
                                                                                                      (1 : Int))).toNat
                                                                                                widths)))) ∧
                                                                                  inI64 (x + (1 : Int)) ∧
                                                                                    I
                                                                                        (cost +
                                                                                          (wide -
                                                                                              lineWide
                                                                                                (List.drop
                                                                                                  (gt starts x).toNat
                                                                                                  (List.take
                                                                                                    (gt starts
                                                                                                        (x +
                                                                                                          (1 :
                                                                                                            Int))).toNat
                                                                                                    widths))) *
                                                                                            (wide -
                                                                                              lineWide
                                                                                                (List.drop
                                                                                                  (gt starts x).toNat
                                                                                                  (List.take
                                                                                                    (gt starts
                                                                                                        (x +
                                                                                                          (1 :
                                                                                                            Int))).toNat
                                                                                                    widths))))
                                                                                        (x + (1 : Int)) ∧
                                                                                      m
                                                                                          (cost +
                                                                                            (wide -
                                                                                                lineWide
                                                                                                  (List.drop
                                                                                                    (gt starts x).toNat
                                                                                                    (List.take
                                                                                                      (gt starts
                                                                                                          (x +
                                                                                                            (1 :
                                                                                                              Int))).toNat
                                                                                                      widths))) *
                                                                                              (wide -
                                                                                                lineWide
                                                                                                  (List.drop
                                                                                                    (gt starts x).toNat
                                                                                                    (List.take
                                                                                                      (gt starts
                                                                                                          (x +
                                                                                                            (1 :
                                                                                                              Int))).toNat
                                                                                                      widths))))
                                                                                          (x + (1 : Int)) <
                                                                                        m cost x))) ∧
                                            (¬x < (↑starts.length : Int) →
                                              cost = (wrapCost widths wide starts).fst ∧
                                                (0 : Int) = (wrapCost widths wide starts).snd)))))) :
    Con Try.prog f_ref_WrapCost ref_WrapCost_ct := ⟨ref_WrapCost_ok.able, fun x hx =>
  con_eq hC (L := []) (trivial) ref_WrapCost_ok (ct := ref_WrapCost_ct) (depth := 0) (by kernel_rfl) x (H (@id (List Int × Int × List Int) x).1 (@id (List Int × Int × List Int) x).2.1 (@id (List Int × Int × List Int) x).2.2 (mpr' hx (by kernel_rfl))) (by kernel_rfl)⟩

theorem law_WrapCosts_vc (hC : Cons Try.prog [(f_wrap_Cost, wrap_Cost_ct), (f_ref_WrapCost, ref_WrapCost_ct)])
    (H : ∀ (widths : List Int) (wide : Int) (starts : List Int), ((widths.length ≤ 140737488351232 ∧ ∀ (x : Int), List.Mem x widths → IntKind.i64.min ≤ x ∧ x ≤ IntKind.i64.max) ∧
  (IntKind.i64.min ≤ wide ∧ wide ≤ IntKind.i64.max) ∧
    starts.length ≤ 140737488351232 ∧ ∀ (x : Int), List.Mem x starts → IntKind.i64.min ≤ x ∧ x ≤ IntKind.i64.max) →
  fitL starts ∧
  fitL starts ∧
    bo
        ((wrapCost widths wide starts).fst = (wrapCost widths wide starts).fst ∧
          (wrapCost widths wide starts).snd = (wrapCost widths wide starts).snd) =
      true) :
    Con Try.prog f_law_WrapCosts law_WrapCosts_ct := ⟨law_WrapCosts_ok.able, fun x hx =>
  con_eq hC (L := []) (trivial) law_WrapCosts_ok (ct := law_WrapCosts_ct) (depth := 0) (by kernel_rfl) x (H (@id (List Int × Int × List Int) x).1 (@id (List Int × Int × List Int) x).2.1 (@id (List Int × Int × List Int) x).2.2 (mpr' hx (by kernel_rfl))) (by kernel_rfl)⟩

end Go.Proofs.Ytmknkkafindicaa
