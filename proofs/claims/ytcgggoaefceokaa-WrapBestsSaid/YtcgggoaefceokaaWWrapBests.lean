/- The typed conditions of the functions, printed by a program of the claim's author; each gives the contract of its function. Conditions: none. -/
import Derived.Test.YtcgggoaefceokaaGWrapBests
import Derived.Test.YtcgggoaefceokaaVpA
import Derived.Test.YtcgggoaefceokaaVpB
import Derived.Test.YtcgggoaefceokaaVpC
import Derived.Test.YtcgggoaefceokaaVpE
import Derived.Test.YtcgggoaefceokaaVpF
import Derived.Test.YtcgggoaefceokaaVpN
import Derived.Test.YtcgggoaefceokaaBase
set_option linter.unusedVariables false
set_option linter.unusedSimpArgs false
set_option maxRecDepth 100000
namespace Go.Proofs.Ytcgggoaefceokaa
open Go.Vc Go.Fu

theorem wrap_Check_vc (hC : Cons Try.prog [])
    (H : ∀ (widths : List Int) (wide : Int), (True) →
  ((80 : Int) < (↑widths.length : Int) → (1 : Int) = wrapFault widths wide) ∧
  (¬(80 : Int) < (↑widths.length : Int) →
    (wide < (1 : Int) ∨ (60 : Int) < wide → (2 : Int) = wrapFault widths wide) ∧
      (¬(wide < (1 : Int) ∨ (60 : Int) < wide) →
        ∃ (I : Int → Int → Prop),
          ∃ (m : Int → Int → Nat),
            I (0 : Int) wide ∧
              ∀ (x f : Int),
                I x f →
                  (x < (↑widths.length : Int) →
                      (0 : Int) ≤ x ∧
                        x < (↑widths.length : Int) ∧
                          (gt widths x < (1 : Int) ∨ f < gt widths x →
                              ((0 : Int) ≤ x → (2 : Int) = wrapFault widths wide) ∧
                                (¬(0 : Int) ≤ x → (0 : Int) = wrapFault widths wide)) ∧
                            (¬(gt widths x < (1 : Int) ∨ f < gt widths x) →
                              inI64 (x + (1 : Int)) ∧ I (x + (1 : Int)) f ∧ m (x + (1 : Int)) f < m x f)) ∧
                    (¬x < (↑widths.length : Int) →
                      ((0 : Int) ≤ (-1 : Int) → (2 : Int) = wrapFault widths wide) ∧
                        (¬(0 : Int) ≤ (-1 : Int) → (0 : Int) = wrapFault widths wide))))) :
    Con Try.prog f_wrap_Check wrap_Check_ct := ⟨wrap_Check_ok.able, fun x hx =>
  con_eq hC (L := [(f_slices_ContainsFunc___int_int_, slices_ContainsFunc___int_int__fi), (f_slices_IndexFunc___int_int_, slices_IndexFunc___int_int__fi), (f_wrap_Check_1, wrap_Check_1_fi)]) (⟨slices_ContainsFunc___int_int__ok, slices_IndexFunc___int_int__ok, wrap_Check_1_ok, trivial⟩) wrap_Check_ok (ct := wrap_Check_ct) (depth := 4) (by kernel_rfl) x (H (@id (List Int × Int) x).1 (@id (List Int × Int) x).2 (mpr' hx (by kernel_rfl))) (by kernel_rfl)⟩

theorem ref_WrapFault_vc (hC : Cons Try.prog [])
    (H : ∀ (widths : List Int) (wide : Int), (True) →
  (80 < (↑widths.length : Int) → 1 = wrapFault widths wide) ∧
  (¬80 < (↑widths.length : Int) →
    (wide < 1 ∨ 60 < wide → 2 = wrapFault widths wide) ∧
      (¬(wide < 1 ∨ 60 < wide) →
        ∃ (I : Int → Prop),
          ∃ (m : Int → Nat),
            I 0 ∧
              ∀ (x : Int),
                I x →
                  (x < (↑widths.length : Int) →
                      0 ≤ x ∧
                        x < (↑widths.length : Int) ∧
                          (gt widths x < 1 ∨ wide < gt widths x → 2 = wrapFault widths wide) ∧
                            (¬(gt widths x < 1 ∨ wide < gt widths x) → inI64 (x + 1) ∧ I (x + 1) ∧ m (x + 1) < m x)) ∧
                    (¬x < (↑widths.length : Int) → 0 = wrapFault widths wide)))) :
    Con Try.prog f_ref_WrapFault ref_WrapFault_ct := ⟨ref_WrapFault_ok.able, fun x hx =>
  con_eq hC (L := []) (trivial) ref_WrapFault_ok (ct := ref_WrapFault_ct) (depth := 0) (by kernel_rfl) x (H (@id (List Int × Int) x).1 (@id (List Int × Int) x).2 (mpr' hx (by kernel_rfl))) (by kernel_rfl)⟩

theorem ref_lineWide_vc (hC : Cons Try.prog [])
    (H : ∀ (words : List Int), (wideOk words) →
  inI64 ((↑words.length : Int) - 1) ∧
  ∃ (I : Int → Int → Prop),
    ∃ (m : Int → Int → Nat),
      I ((↑words.length : Int) - 1) 0 ∧
        ∀ (n x : Int),
          I n x →
            (x < (↑words.length : Int) →
                0 ≤ x ∧
                  x < (↑words.length : Int) ∧
                    inI64 (n + gt words x) ∧
                      inI64 (x + 1) ∧ I (n + gt words x) (x + 1) ∧ m (n + gt words x) (x + 1) < m n x) ∧
              (¬x < (↑words.length : Int) → n = lineWide words)) :
    Con Try.prog f_ref_lineWide ref_lineWide_ct := ⟨ref_lineWide_ok.able, fun x hx =>
  con_eq hC (L := []) (trivial) ref_lineWide_ok (ct := ref_lineWide_ct) (depth := 0) (by kernel_rfl) x (H (@id (List Int) x) (mpr' hx (by kernel_rfl))) (by kernel_rfl)⟩

theorem ref_WrapCost_vc (hC : Cons Try.prog [(f_ref_WrapFault, ref_WrapFault_ct), (f_ref_lineWide, ref_lineWide_ct)])
    (H : ∀ (widths : List Int) (wide : Int) (starts : List Int), (fitI starts) →
  True ∧
  (wrapFault widths wide ≠ (0 : Int) →
      (0 : Int) = (wrapCost widths wide starts).fst ∧ wrapFault widths wide = (wrapCost widths wide starts).snd) ∧
    (¬wrapFault widths wide ≠ (0 : Int) →
      ((↑widths.length : Int) = (0 : Int) →
          ((0 : Int) < (↑starts.length : Int) →
              (0 : Int) = (wrapCost widths wide starts).fst ∧ (4 : Int) = (wrapCost widths wide starts).snd) ∧
            (¬(0 : Int) < (↑starts.length : Int) →
              (0 : Int) = (wrapCost widths wide starts).fst ∧ (0 : Int) = (wrapCost widths wide starts).snd)) ∧
        (¬(↑widths.length : Int) = (0 : Int) →
          (¬(↑starts.length : Int) = (0 : Int) → (0 : Int) ≤ (0 : Int)) ∧
            (¬(↑starts.length : Int) = (0 : Int) → (0 : Int) < (↑starts.length : Int)) ∧
              ((↑starts.length : Int) = (0 : Int) ∨ gt starts (0 : Int) ≠ (0 : Int) →
                  (0 : Int) = (wrapCost widths wide starts).fst ∧ (4 : Int) = (wrapCost widths wide starts).snd) ∧
                (¬((↑starts.length : Int) = (0 : Int) ∨ gt starts (0 : Int) ≠ (0 : Int)) →
                  ∃ (I : Int → Prop),
                    ∃ (m : Int → Nat),
                      I (0 : Int) ∧
                        ∀ (x : Int),
                          I x →
                            (x < (↑starts.length : Int) →
                                (0 : Int) ≤ x ∧
                                  x < (↑starts.length : Int) ∧
                                    (¬(gt starts x < (0 : Int) ∨ (↑widths.length : Int) ≤ gt starts x) ∧ (0 : Int) < x →
                                        inI64 (x - (1 : Int))) ∧
                                      (¬(gt starts x < (0 : Int) ∨ (↑widths.length : Int) ≤ gt starts x) ∧
                                            (0 : Int) < x →
                                          (0 : Int) ≤ x - (1 : Int)) ∧
                                        (¬(gt starts x < (0 : Int) ∨ (↑widths.length : Int) ≤ gt starts x) ∧
                                              (0 : Int) < x →
                                            x - (1 : Int) < (↑starts.length : Int)) ∧
                                          ((gt starts x < (0 : Int) ∨ (↑widths.length : Int) ≤ gt starts x) ∨
                                                (0 : Int) < x ∧ gt starts x ≤ gt starts (x - (1 : Int)) →
                                              (0 : Int) = (wrapCost widths wide starts).fst ∧
                                                (4 : Int) = (wrapCost widths wide starts).snd) ∧
                                            (¬((gt starts x < (0 : Int) ∨ (↑widths.length : Int) ≤ gt starts x) ∨
                                                  (0 : Int) < x ∧ gt starts x ≤ gt starts (x - (1 : Int))) →
                                              inI64 (x + (1 : Int)) ∧ I (x + (1 : Int)) ∧ m (x + (1 : Int)) < m x)) ∧
                              (¬x < (↑starts.length : Int) →
                                ∃ (I : Int → Int → Prop),
                                  ∃ (m : Int → Int → Nat),
                                    I (0 : Int) (0 : Int) ∧
                                      ∀ (cost x : Int),
                                        I cost x →
                                          (x < (↑starts.length : Int) →
                                              (0 : Int) ≤ x ∧
                                                x < (↑starts.length : Int) ∧
                                                  inI64 (x + (1 : Int)) ∧
                                                    (x + (1 : Int) = (↑starts.length : Int) →
                                                        (0 : Int) ≤ gt starts x ∧
                                                          gt starts x ≤ (↑widths.length : Int) ∧
                                                            (↑widths.length : Int) ≤ (↑widths.length : Int) ∧
                                                              wideOk
                                                                  (List.drop (gt starts x).toNat
                                                                    (List.take (↑widths.length : Int).toNat widths)) ∧
                                                                (wide <
                                                                      lineWide
                                                                        (List.drop (gt starts x).toNat
                                                                          (List.take (↑widths.length : Int).toNat
                                                                            widths)) →
                                                                    (0 : Int) = (wrapCost widths wide starts).fst ∧
                                                                      (4 : Int) = (wrapCost widths wide starts).snd) ∧
                                                                  (¬wide <
                                                                        lineWide
                                                                          (List.drop (gt starts x).toNat
                                                                            (List.take (↑widths.length : Int).toNat
                                                                              widths)) →
                                                                    cost = (wrapCost widths wide starts).fst ∧
                                                                      (0 : Int) = (wrapCost widths wide starts).snd)) ∧
                                                      (¬x + (1 : Int) = (↑starts.length : Int) →
                                                        inI64 (x + (1 : Int)) ∧
                                                          (0 : Int) ≤ x + (1 : Int) ∧
                                                            x + (1 : Int) < (↑starts.length : Int) ∧
                                                              (0 : Int) ≤ gt starts x ∧
                                                                gt starts x ≤ gt starts (x + (1 : Int)) ∧
                                                                  gt starts (x + (1 : Int)) ≤ (↑widths.length : Int) ∧
                                                                    wideOk
                                                                        (List.drop (gt starts x).toNat
                                                                          (List.take (gt starts (x + (1 : Int))).toNat
                                                                            widths)) ∧
                                                                      (wide <
                                                                            lineWide
                                                                              (List.drop (gt starts x).toNat
                                                                                (List.take
                                                                                  (gt starts (x + (1 : Int))).toNat
                                                                                  widths)) →
                                                                          (0 : Int) =
                                                                              (wrapCost widths wide starts).fst ∧
                                                                            (4 : Int) =
                                                                              (wrapCost widths wide starts).snd) ∧
                                                                        (¬wide <
                                                                              lineWide
                                                                                (List.drop (gt starts x).toNat
                                                                                  (List.take
                                                                                    (gt starts (x + (1 : Int))).toNat
                                                                                    widths)) →
                                                                          inI64
                                                                              (wide -
                                                                                lineWide
                                                                                  (List.drop (gt starts x).toNat
                                                                                    (List.take
                                                                                      (gt starts (x + (1 : Int))).toNat
                                                                                      widths))) ∧
                                                                            inI64
                                                                                (wide -
                                                                                  lineWide
                                                                                    (List.drop (gt starts x).toNat
                                                                                      (List.take
                                                                                        (gt starts
                                                                                            (x + (1 : Int))).toNat
                                                                                        widths))) ∧
                                                                              inI64
                                                                                  ((wide -
                                                                                      lineWide
                                                                                        (List.drop (gt starts x).toNat
                                                                                          (List.take
                                                                                            (gt starts
                                                                                                (x + (1 : Int))).toNat
                                                                                            widths))) *
                                                                                    (wide -
                                                                                      lineWide
                                                                                        (List.drop (gt starts x).toNat
                                                                                          (List.take
                                                                                            (gt starts
                                                                                                (x + (1 : Int))).toNat
                                                                                            widths)))) ∧
                                                                                inI64
                                                                                    (cost +
                                                                                      (wide -
                                                                                          lineWide
                                                                                            (List.drop
                                                                                              (gt starts x).toNat
                                                                                              (List.take
                                                                                                (gt starts
                                                                                                    (x +
                                                                                                      (1 : Int))).toNat
                                                                                                widths))) *
                                                                                        (wide -
                                                                                          lineWide
                                                                                            (List.drop
                                                                                              (gt starts x).toNat
                                                                                              (List.take
                                                                                                (gt starts
                                                                                                    (x +
                                                                                                      (1 : Int))).toNat
                                                                                                widths)))) ∧
                                                                                  inI64 (x + (1 : Int)) ∧
                                                                                    I
                                                                                        (cost +
                                                                                          (wide -
                                                                                              lineWide
                                                                                                (List.drop
                                                                                                  (gt starts x).toNat
                                                                                                  (List.take
                                                                                                    (gt starts
                                                                                                        (x +
                                                                                                          (1 :
                                                                                                            Int))).toNat
                                                                                                    widths))) *
                                                                                            (wide -
                                                                                              lineWide
                                                                                                (List.drop
                                                                                                  (gt starts x).toNat
                                                                                                  (List.take
                                                                                                    (gt starts
                                                                                                        (x +
                                                                                                          (1 :
                                                                                                            Int))).toNat
                                                                                                    widths))))
                                                                                        (x + (1 : Int)) ∧
                                                                                      m
                                                                                          (cost +
                                                                                            (wide -
                                                                                                lineWide
                                                                                                  (List.drop
                                                                                                    (gt starts x).toNat
                                                                                                    (List.take
                                                                                                      (gt starts
                                                                                                          (x +
                                                                                                            (1 :
                                                                                                              Int))).toNat
                                                                                                      widths))) *
                                                                                              (wide -
                                                                                                lineWide
                                                                                                  (List.drop
                                                                                                    (gt starts x).toNat
                                                                                                    (List.take
                                                                                                      (gt starts
                                                                                                          (x +
                                                                                                            (1 :
                                                                                                              Int))).toNat
                                                                                                      widths))))
                                                                                          (x + (1 : Int)) <
                                                                                        m cost x))) ∧
                                            (¬x < (↑starts.length : Int) →
                                              cost = (wrapCost widths wide starts).fst ∧
                                                (0 : Int) = (wrapCost widths wide starts).snd)))))) :
    Con Try.prog f_ref_WrapCost ref_WrapCost_ct := ⟨ref_WrapCost_ok.able, fun x hx =>
  con_eq hC (L := []) (trivial) ref_WrapCost_ok (ct := ref_WrapCost_ct) (depth := 0) (by kernel_rfl) x (H (@id (List Int × Int × List Int) x).1 (@id (List Int × Int × List Int) x).2.1 (@id (List Int × Int × List Int) x).2.2 (mpr' hx (by kernel_rfl))) (by kernel_rfl)⟩

theorem ref_WrapLeast_vc (hC : Cons Try.prog [(f_ref_lineWide, ref_lineWide_ct)])
    (H : ∀ (widths : List Int) (wide : Int), (wrapFault widths wide = 0) →
  ∃ (I : Int → List Int → Prop),
  ∃ (m : Int → List Int → Nat),
    I 1 [0] ∧
      ∀ (to : Int) (best : List Int),
        I to best →
          (to ≤ (↑widths.length : Int) →
              inI64 (to - 1) ∧
                ∃ (I_1 : Int → Int → Prop),
                  ∃ (m_1 : Int → Int → Nat),
                    (best = best ∧ I_1 (-1) (to - 1)) ∧
                      ∀ (least from_ : Int),
                        I_1 least from_ →
                          (0 ≤ from_ → 0 ≤ from_) ∧
                            (0 ≤ from_ → from_ ≤ to) ∧
                              (0 ≤ from_ → to ≤ (↑widths.length : Int)) ∧
                                (0 ≤ from_ → wideOk (List.drop from_.toNat (List.take to.toNat widths))) ∧
                                  (0 ≤ from_ ∧ lineWide (List.drop from_.toNat (List.take to.toNat widths)) ≤ wide →
                                      0 ≤ from_ ∧
                                        from_ < (↑best.length : Int) ∧
                                          (to < (↑widths.length : Int) → 0 ≤ from_) ∧
                                            (to < (↑widths.length : Int) → from_ ≤ to) ∧
                                              (to < (↑widths.length : Int) → to ≤ (↑widths.length : Int)) ∧
                                                (to < (↑widths.length : Int) →
                                                    wideOk (List.drop from_.toNat (List.take to.toNat widths))) ∧
                                                  (to < (↑widths.length : Int) →
                                                      inI64
                                                        (wide -
                                                          lineWide
                                                            (List.drop from_.toNat (List.take to.toNat widths)))) ∧
                                                    (to < (↑widths.length : Int) →
                                                        inI64
                                                          ((wide -
                                                              lineWide
                                                                (List.drop from_.toNat (List.take to.toNat widths))) *
                                                            (wide -
                                                              lineWide
                                                                (List.drop from_.toNat (List.take to.toNat widths))))) ∧
                                                      (to < (↑widths.length : Int) →
                                                          inI64
                                                            (gt best from_ +
                                                              (wide -
                                                                  lineWide
                                                                    (List.drop from_.toNat
                                                                      (List.take to.toNat widths))) *
                                                                (wide -
                                                                  lineWide
                                                                    (List.drop from_.toNat
                                                                      (List.take to.toNat widths))))) ∧
                                                        inI64 (from_ - 1) ∧
                                                          best = best ∧
                                                            I_1
                                                                (iteP
                                                                  (least < 0 ∨
                                                                    iteP (to < (↑widths.length : Int))
                                                                        (gt best from_ +
                                                                          (wide -
                                                                              lineWide
                                                                                (List.drop from_.toNat
                                                                                  (List.take to.toNat widths))) *
                                                                            (wide -
                                                                              lineWide
                                                                                (List.drop from_.toNat
                                                                                  (List.take to.toNat widths))))
                                                                        (gt best from_) <
                                                                      least)
                                                                  (iteP (to < (↑widths.length : Int))
                                                                    (gt best from_ +
                                                                      (wide -
                                                                          lineWide
                                                                            (List.drop from_.toNat
                                                                              (List.take to.toNat widths))) *
                                                                        (wide -
                                                                          lineWide
                                                                            (List.drop from_.toNat
                                                                              (List.take to.toNat widths))))
                                                                    (gt best from_))
                                                                  least)
                                                                (from_ - 1) ∧
                                                              m_1
                                                                  (iteP
                                                                    (least < 0 ∨
                                                                      iteP (to < (↑widths.length : Int))
                                                                          (gt best from_ +
                                                                            (wide -
                                                                                lineWide
                                                                                  (List.drop from_.toNat
                                                                                    (List.take to.toNat widths))) *
                                                                              (wide -
                                                                                lineWide
                                                                                  (List.drop from_.toNat
                                                                                    (List.take to.toNat widths))))
                                                                          (gt best from_) <
                                                                        least)
                                                                    (iteP (to < (↑widths.length : Int))
                                                                      (gt best from_ +
                                                                        (wide -
                                                                            lineWide
                                                                              (List.drop from_.toNat
                                                                                (List.take to.toNat widths))) *
                                                                          (wide -
                                                                            lineWide
                                                                              (List.drop from_.toNat
                                                                                (List.take to.toNat widths))))
                                                                      (gt best from_))
                                                                    least)
                                                                  (from_ - 1) <
                                                                m_1 least from_) ∧
                                    (¬(0 ≤ from_ ∧
                                          lineWide (List.drop from_.toNat (List.take to.toNat widths)) ≤ wide) →
                                      (best.length + 1) * 8 ≤ 140737488355328 ∧
                                        inI64 (to + 1) ∧
                                          I (to + 1) (best ++ [least]) ∧ m (to + 1) (best ++ [least]) < m to best)) ∧
            (¬to ≤ (↑widths.length : Int) →
              0 ≤ (↑widths.length : Int) ∧
                (↑widths.length : Int) < (↑best.length : Int) ∧ gt best (↑widths.length : Int) = wrapLeast widths wide)) :
    Con Try.prog f_ref_WrapLeast ref_WrapLeast_ct := ⟨ref_WrapLeast_ok.able, fun x hx =>
  con_eq hC (L := []) (trivial) ref_WrapLeast_ok (ct := ref_WrapLeast_ct) (depth := 0) (by kernel_rfl) x (H (@id (List Int × Int) x).1 (@id (List Int × Int) x).2 (mpr' hx (by kernel_rfl))) (by kernel_rfl)⟩

theorem law_WrapBests_vc (hC : Cons Try.prog [(f_wrap_Check, wrap_Check_ct), (f_ref_WrapFault, ref_WrapFault_ct), (f_ref_WrapCost, ref_WrapCost_ct), (f_ref_WrapLeast, ref_WrapLeast_ct)])
    (H : ∀ (widths : List Int) (wide : Int), ((widths.length ≤ 140737488351232 ∧ ∀ (x : Int), List.Mem x widths → IntKind.i64.min ≤ x ∧ x ≤ IntKind.i64.max) ∧
  IntKind.i64.min ≤ wide ∧ wide ≤ IntKind.i64.max) →
  True ∧
  (wrapFault widths wide ≠ (0 : Int) →
      True ∧
        (wrapFault widths wide ≠ (0 : Int) →
            bo ((0 : Int) = (0 : Int) ∧ wrapFault widths wide = wrapFault widths wide) = true) ∧
          (¬wrapFault widths wide ≠ (0 : Int) →
            fitI [] ∧
              (wrapFault widths wide = (0 : Int) ∧ (wrapCost widths wide []).snd = (0 : Int) →
                  wrapFault widths wide = (0 : Int)) ∧
                bo
                    ((wrapFault widths wide = (0 : Int) ∧ (wrapCost widths wide []).snd = (0 : Int)) ∧
                      (wrapCost widths wide []).fst = wrapLeast widths wide) =
                  true)) ∧
    (¬wrapFault widths wide ≠ (0 : Int) →
      inI64 ((↑widths.length : Int) + (1 : Int)) ∧
        inI64 ((↑widths.length : Int) + (1 : Int)) ∧
          (↑widths.length : Int) + (1 : Int) = (↑widths.length : Int) + (1 : Int) ∧
            (0 : Int) ≤ (↑widths.length : Int) + (1 : Int) ∧
              (8 : Nat) * ((↑widths.length : Int) + (1 : Int)).toNat ≤ (140737488355328 : Nat) ∧
                (↑widths.length : Int) + (1 : Int) = (↑widths.length : Int) + (1 : Int) ∧
                  (0 : Int) ≤ (↑widths.length : Int) + (1 : Int) ∧
                    (8 : Nat) * ((↑widths.length : Int) + (1 : Int)).toNat ≤ (140737488355328 : Nat) ∧
                      inI64 ((↑widths.length : Int) - (1 : Int)) ∧
                        ∃ (I : Int → List Int → List Int → Prop),
                          ∃ (m : Int → List Int → List Int → Nat),
                            I ((↑widths.length : Int) - (1 : Int))
                                (List.replicate ((↑widths.length : Int) + (1 : Int)).toNat (0 : Int))
                                (List.replicate ((↑widths.length : Int) + (1 : Int)).toNat (0 : Int)) ∧
                              ∀ (i : Int) (cost next : List Int),
                                I i cost next →
                                  ((0 : Int) ≤ i →
                                      (0 : Int) ≤ i ∧
                                        i < (↑cost.length : Int) ∧
                                          inI64 (wide + (1 : Int)) ∧
                                            ∃ (I_1 : Int → Int → List Int → List Int → Prop),
                                              ∃ (m_1 : Int → Int → List Int → List Int → Nat),
                                                I_1 (wide + (1 : Int)) i (cost.set i.toNat (-1 : Int)) next ∧
                                                  ∀ (free k : Int) (cost_1 next_1 : List Int),
                                                    I_1 free k cost_1 next_1 →
                                                      (k < (↑widths.length : Int) →
                                                          (0 : Int) ≤ k ∧
                                                            k < (↑widths.length : Int) ∧
                                                              inI64 (gt widths k + (1 : Int)) ∧
                                                                inI64 (free - (gt widths k + (1 : Int))) ∧
                                                                  (free - (gt widths k + (1 : Int)) < (0 : Int) →
                                                                      inI64 (i - (1 : Int)) ∧
                                                                        I (i - (1 : Int)) cost_1 next_1 ∧
                                                                          m (i - (1 : Int)) cost_1 next_1 <
                                                                            m i cost next) ∧
                                                                    (¬free - (gt widths k + (1 : Int)) < (0 : Int) →
                                                                      inI64 (k + (1 : Int)) ∧
                                                                        (k + (1 : Int) < (↑widths.length : Int) →
                                                                            inI64
                                                                              ((free - (gt widths k + (1 : Int))) *
                                                                                (free - (gt widths k + (1 : Int))))) ∧
                                                                          (k + (1 : Int) < (↑widths.length : Int) →
                                                                              inI64 (k + (1 : Int))) ∧
                                                                            (k + (1 : Int) < (↑widths.length : Int) →
                                                                                (0 : Int) ≤ k + (1 : Int)) ∧
                                                                              (k + (1 : Int) < (↑widths.length : Int) →
                                                                                  k + (1 : Int) <
                                                                                    (↑cost_1.length : Int)) ∧
                                                                                (k + (1 : Int) <
                                                                                      (↑widths.length : Int) →
                                                                                    inI64
                                                                                      ((free -
                                                                                            (gt widths k + (1 : Int))) *
                                                                                          (free -
                                                                                            (gt widths k + (1 : Int))) +
                                                                                        gt cost_1 (k + (1 : Int)))) ∧
                                                                                  (0 : Int) ≤ i ∧
                                                                                    i < (↑cost_1.length : Int) ∧
                                                                                      (¬gt cost_1 i < (0 : Int) →
                                                                                          (0 : Int) ≤ i) ∧
                                                                                        (¬gt cost_1 i < (0 : Int) →
                                                                                            i <
                                                                                              (↑cost_1.length : Int)) ∧
                                                                                          (gt cost_1 i < (0 : Int) ∨
                                                                                                iteP
                                                                                                    (k + (1 : Int) <
                                                                                                      (↑widths.length :
                                                                                                        Int))
                                                                                                    ((free -
                                                                                                          (gt widths k +
                                                                                                            (1 :
                                                                                                              Int))) *
                                                                                                        (free -
                                                                                                          (gt widths k +
                                                                                                            (1 :
                                                                                                              Int))) +
                                                                                                      gt cost_1
                                                                                                        (k + (1 : Int)))
                                                                                                    (0 : Int) <
                                                                                                  gt cost_1 i →
                                                                                              inI64 (k + (1 : Int)) ∧
                                                                                                (0 : Int) ≤ i ∧
                                                                                                  i <
                                                                                                      (↑cost_1.length :
                                                                                                        Int) ∧
                                                                                                    (0 : Int) ≤ i ∧
                                                                                                      i <
                                                                                                          (↑next_1.length :
                                                                                                            Int) ∧
                                                                                                        inI64
                                                                                                            (k +
                                                                                                              (1 :
                                                                                                                Int)) ∧
                                                                                                          I_1
                                                                                                              (free -
                                                                                                                (gt
                                                                                                                    widths
                                                                                                                    k +
                                                                                                                  (1 :
                                                                                                                    Int)))
                                                                                                              (k +
                                                                                                                (1 :
                                                                                                                  Int))
                                                                                                              (cost_1.set
                                                                                                                i.toNat
                                                                                                                (iteP
                                                                                                                  (k +
                                                                                                                      (1 :
                                                                                                                        Int) <
                                                                                                                    (↑widths.length :
                                                                                                                      Int))
                                                                                                                  ((free -
                                                                                                                        (gt
                                                                                                                            widths
                                                                                                                            k +
                                                                                                                          (1 :
                                                                                                                            Int))) *
                                                                                                                      (free -
                                                                                                                        (gt
                                                                                                                            widths
                                                                                                                            k +
                                                                                                                          (1 :
                                                                                                                            Int))) +
                                                                                                                    gt
                                                                                                                      cost_1
                                                                                                                      (k +
                                                                                                                        (1 :
                                                                                                                          Int)))
                                                                                                                  (0 :
                                                                                                                    Int)))
                                                                                                              (next_1.set
                                                                                                                i.toNat
                                                                                                                (k +
                                                                                                                  (1 :
                                                                                                                    Int))) ∧
                                                                                                            m_1
                                                                                                                (free -
                                                                                                                  (gt
                                                                                                                      widths
                                                                                                                      k +
                                                                                                                    (1 :
                                                                                                                      Int)))
                                                                                                                (k +
                                                                                                                  (1 :
                                                                                                                    Int))
                                                                                                                (cost_1.set
                                                                                                                  i.toNat
                                                                                                                  (iteP
                                                                                                                    (k +
                                                                                                                        (1 :
                                                                                                                          Int) <
                                                                                                                      (↑widths.length :
                                                                                                                        Int))
                                                                                                                    ((free -
                                                                                                                          (gt
                                                                                                                              widths
                                                                                                                              k +
                                                                                                                            (1 :
                                                                                                                              Int))) *
                                                                                                                        (free -
                                                                                                                          (gt
                                                                                                                              widths
                                                                                                                              k +
                                                                                                                            (1 :
                                                                                                                              Int))) +
                                                                                                                      gt
                                                                                                                        cost_1
                                                                                                                        (k +
                                                                                                                          (1 :
                                                                                                                            Int)))
                                                                                                                    (0 :
                                                                                                                      Int)))
                                                                                                                (next_1.set
                                                                                                                  i.toNat
                                                                                                                  (k +
                                                                                                                    (1 :
                                                                                                                      Int))) <
                                                                                                              m_1 free k
                                                                                                                cost_1
                                                                                                                next_1) ∧
                                                                                            (¬(gt cost_1 i < (0 : Int) ∨
                                                                                                  iteP
                                                                                                      (k + (1 : Int) <
                                                                                                        (↑widths.length :
                                                                                                          Int))
                                                                                                      ((free -
                                                                                                            (gt widths
                                                                                                                k +
                                                                                                              (1 :
                                                                                                                Int))) *
                                                                                                          (free -
                                                                                                            (gt widths
                                                                                                                k +
                                                                                                              (1 :
                                                                                                                Int))) +
                                                                                                        gt cost_1
                                                                                                          (k +
                                                                                                            (1 : Int)))
                                                                                                      (0 : Int) <
                                                                                                    gt cost_1 i) →
                                                                                              inI64 (k + (1 : Int)) ∧
                                                                                                I_1
                                                                                                    (free -
                                                                                                      (gt widths k +
                                                                                                        (1 : Int)))
                                                                                                    (k + (1 : Int))
                                                                                                    cost_1 next_1 ∧
                                                                                                  m_1
                                                                                                      (free -
                                                                                                        (gt widths k +
                                                                                                          (1 : Int)))
                                                                                                      (k + (1 : Int))
                                                                                                      cost_1 next_1 <
                                                                                                    m_1 free k cost_1
                                                                                                      next_1))) ∧
                                                        (¬k < (↑widths.length : Int) →
                                                          inI64 (i - (1 : Int)) ∧
                                                            I (i - (1 : Int)) cost_1 next_1 ∧
                                                              m (i - (1 : Int)) cost_1 next_1 < m i cost next)) ∧
                                    (¬(0 : Int) ≤ i →
                                      ∃ (I : Int → List Int → Prop),
                                        ∃ (m : Int → List Int → Nat),
                                          (cost = cost ∧ next = next ∧ I (0 : Int) []) ∧
                                            ∀ (i : Int) (out : List Int),
                                              I i out →
                                                (i < (↑widths.length : Int) →
                                                    (out.length + (1 : Nat)) * (8 : Nat) ≤ (140737488355328 : Nat) ∧
                                                      (0 : Int) ≤ i ∧
                                                        i < (↑next.length : Int) ∧
                                                          cost = cost ∧
                                                            next = next ∧
                                                              I (gt next i) (out ++ [i]) ∧
                                                                m (gt next i) (out ++ [i]) < m i out) ∧
                                                  (¬i < (↑widths.length : Int) →
                                                    True ∧
                                                      (wrapFault widths wide ≠ (0 : Int) →
                                                          bo
                                                              ((↑out.length : Int) = (0 : Int) ∧
                                                                (0 : Int) = wrapFault widths wide) =
                                                            true) ∧
                                                        (¬wrapFault widths wide ≠ (0 : Int) →
                                                          fitI out ∧
                                                            ((0 : Int) = (0 : Int) ∧
                                                                  (wrapCost widths wide out).snd = (0 : Int) →
                                                                wrapFault widths wide = (0 : Int)) ∧
                                                              bo
                                                                  (((0 : Int) = (0 : Int) ∧
                                                                      (wrapCost widths wide out).snd = (0 : Int)) ∧
                                                                    (wrapCost widths wide out).fst =
                                                                      wrapLeast widths wide) =
                                                                true))))) :
    Con Try.prog f_law_WrapBests law_WrapBests_ct := ⟨law_WrapBests_ok.able, fun x hx =>
  con_eq hC (L := [(f_wrap_Best, wrap_Best_fi)]) (⟨wrap_Best_ok, trivial⟩) law_WrapBests_ok (ct := law_WrapBests_ct) (depth := 3) (by kernel_rfl) x (H (@id (List Int × Int) x).1 (@id (List Int × Int) x).2 (mpr' hx (by kernel_rfl))) (by kernel_rfl)⟩

end Go.Proofs.Ytcgggoaefceokaa
