/- The typed conditions of the functions, printed by a program of the claim's author; each gives the contract of its function. Conditions: none. -/
import Derived.Test.YtcgggoaefceokaaGWrapGreedies
import Derived.Test.YtcgggoaefceokaaVpA
import Derived.Test.YtcgggoaefceokaaVpB
import Derived.Test.YtcgggoaefceokaaVpC
import Derived.Test.YtcgggoaefceokaaVpE
import Derived.Test.YtcgggoaefceokaaVpF
import Derived.Test.YtcgggoaefceokaaBase
set_option linter.unusedVariables false
set_option linter.unusedSimpArgs false
set_option maxRecDepth 100000
namespace Go.Proofs.Ytcgggoaefceokaa
open Go.Vc Go.Fu

theorem wrap_Check_vc (hC : Cons Try.prog [])
    (H : ∀ (widths : List Int) (wide : Int), (True) →
  ((80 : Int) < (↑widths.length : Int) → (1 : Int) = wrapFault widths wide) ∧
  (¬(80 : Int) < (↑widths.length : Int) →
    (wide < (1 : Int) ∨ (60 : Int) < wide → (2 : Int) = wrapFault widths wide) ∧
      (¬(wide < (1 : Int) ∨ (60 : Int) < wide) →
        ∃ (I : Int → Int → Prop),
          ∃ (m : Int → Int → Nat),
            I (0 : Int) wide ∧
              ∀ (x f : Int),
                I x f →
                  (x < (↑widths.length : Int) →
                      (0 : Int) ≤ x ∧
                        x < (↑widths.length : Int) ∧
                          (gt widths x < (1 : Int) ∨ f < gt widths x →
                              ((0 : Int) ≤ x → (2 : Int) = wrapFault widths wide) ∧
                                (¬(0 : Int) ≤ x → (0 : Int) = wrapFault widths wide)) ∧
                            (¬(gt widths x < (1 : Int) ∨ f < gt widths x) →
                              inI64 (x + (1 : Int)) ∧ I (x + (1 : Int)) f ∧ m (x + (1 : Int)) f < m x f)) ∧
                    (¬x < (↑widths.length : Int) →
                      ((0 : Int) ≤ (-1 : Int) → (2 : Int) = wrapFault widths wide) ∧
                        (¬(0 : Int) ≤ (-1 : Int) → (0 : Int) = wrapFault widths wide))))) :
    Con Try.prog f_wrap_Check wrap_Check_ct := fun x hx =>
  con_eq hC (L := [(f_slices_ContainsFunc___int_int_, slices_ContainsFunc___int_int__fi), (f_slices_IndexFunc___int_int_, slices_IndexFunc___int_int__fi), (f_wrap_Check_1, wrap_Check_1_fi)]) (⟨slices_ContainsFunc___int_int__ok, slices_IndexFunc___int_int__ok, wrap_Check_1_ok, trivial⟩) wrap_Check_ok (ct := wrap_Check_ct) (depth := 4) (by kernel_rfl) x (H (@id (List Int × Int) x).1 (@id (List Int × Int) x).2 (mpr' hx (by kernel_rfl))) (by kernel_rfl)

theorem wrap_Greedy_vc (hC : Cons Try.prog [(f_wrap_Check, wrap_Check_ct)])
    (H : ∀ (widths : List Int) (wide : Int), (True) →
  True ∧
  (wrapFault widths wide ≠ 0 →
      [] = (wrapGreedy widths wide).fst ∧ wrapFault widths wide = (wrapGreedy widths wide).snd) ∧
    (¬wrapFault widths wide ≠ 0 →
      ∃ (I : Int → Int → List Int → Prop),
        ∃ (m : Int → Int → List Int → Nat),
          I (-1) 0 [] ∧
            ∀ (free x : Int) (out : List Int),
              I free x out →
                (x < (↑widths.length : Int) →
                    0 ≤ x ∧
                      x < (↑widths.length : Int) ∧
                        inI64 (free - 1) ∧
                          (free - 1 < gt widths x ∨ x = 0 →
                              (out.length + 1) * 8 ≤ 140737488355328 ∧
                                inI64 (wide - gt widths x) ∧
                                  inI64 (x + 1) ∧
                                    I (wide - gt widths x) (x + 1) (out ++ [x]) ∧
                                      m (wide - gt widths x) (x + 1) (out ++ [x]) < m free x out) ∧
                            (¬(free - 1 < gt widths x ∨ x = 0) →
                              inI64 (gt widths x + 1) ∧
                                inI64 (free - (gt widths x + 1)) ∧
                                  inI64 (x + 1) ∧
                                    I (free - (gt widths x + 1)) (x + 1) out ∧
                                      m (free - (gt widths x + 1)) (x + 1) out < m free x out)) ∧
                  (¬x < (↑widths.length : Int) → out = (wrapGreedy widths wide).fst ∧ 0 = (wrapGreedy widths wide).snd))) :
    Con Try.prog f_wrap_Greedy wrap_Greedy_ct := fun x hx =>
  con_eq hC (L := []) (trivial) wrap_Greedy_ok (ct := wrap_Greedy_ct) (depth := 0) (by kernel_rfl) x (H (@id (List Int × Int) x).1 (@id (List Int × Int) x).2 (mpr' hx (by kernel_rfl))) (by kernel_rfl)

theorem ref_WrapFault_vc (hC : Cons Try.prog [])
    (H : ∀ (widths : List Int) (wide : Int), (True) →
  (80 < (↑widths.length : Int) → 1 = wrapFault widths wide) ∧
  (¬80 < (↑widths.length : Int) →
    (wide < 1 ∨ 60 < wide → 2 = wrapFault widths wide) ∧
      (¬(wide < 1 ∨ 60 < wide) →
        ∃ (I : Int → Prop),
          ∃ (m : Int → Nat),
            I 0 ∧
              ∀ (x : Int),
                I x →
                  (x < (↑widths.length : Int) →
                      0 ≤ x ∧
                        x < (↑widths.length : Int) ∧
                          (gt widths x < 1 ∨ wide < gt widths x → 2 = wrapFault widths wide) ∧
                            (¬(gt widths x < 1 ∨ wide < gt widths x) → inI64 (x + 1) ∧ I (x + 1) ∧ m (x + 1) < m x)) ∧
                    (¬x < (↑widths.length : Int) → 0 = wrapFault widths wide)))) :
    Con Try.prog f_ref_WrapFault ref_WrapFault_ct := fun x hx =>
  con_eq hC (L := []) (trivial) ref_WrapFault_ok (ct := ref_WrapFault_ct) (depth := 0) (by kernel_rfl) x (H (@id (List Int × Int) x).1 (@id (List Int × Int) x).2 (mpr' hx (by kernel_rfl))) (by kernel_rfl)

theorem ref_lineWide_vc (hC : Cons Try.prog [])
    (H : ∀ (words : List Int), (wideOk words) →
  inI64 ((↑words.length : Int) - 1) ∧
  ∃ (I : Int → Int → Prop),
    ∃ (m : Int → Int → Nat),
      I ((↑words.length : Int) - 1) 0 ∧
        ∀ (n x : Int),
          I n x →
            (x < (↑words.length : Int) →
                0 ≤ x ∧
                  x < (↑words.length : Int) ∧
                    inI64 (n + gt words x) ∧
                      inI64 (x + 1) ∧ I (n + gt words x) (x + 1) ∧ m (n + gt words x) (x + 1) < m n x) ∧
              (¬x < (↑words.length : Int) → n = lineWide words)) :
    Con Try.prog f_ref_lineWide ref_lineWide_ct := fun x hx =>
  con_eq hC (L := []) (trivial) ref_lineWide_ok (ct := ref_lineWide_ct) (depth := 0) (by kernel_rfl) x (H (@id (List Int) x) (mpr' hx (by kernel_rfl))) (by kernel_rfl)

theorem ref_WrapGreedy_vc (hC : Cons Try.prog [(f_ref_WrapFault, ref_WrapFault_ct), (f_ref_lineWide, ref_lineWide_ct)])
    (H : ∀ (widths : List Int) (wide : Int), (True) →
  True ∧
  (wrapFault widths wide ≠ 0 →
      [] = (wrapGreedy widths wide).fst ∧ wrapFault widths wide = (wrapGreedy widths wide).snd) ∧
    (¬wrapFault widths wide ≠ 0 →
      ∃ (I : Int → List Int → Prop),
        ∃ (m : Int → List Int → Nat),
          I 0 [] ∧
            ∀ (at_ : Int) (out : List Int),
              I at_ out →
                (at_ < (↑widths.length : Int) →
                    (out.length + 1) * 8 ≤ 140737488355328 ∧
                      inI64 (at_ + 1) ∧
                        ∃ (I_1 : Int → Prop),
                          ∃ (m_1 : Int → Nat),
                            (out ++ [at_] = out ++ [at_] ∧ I_1 (at_ + 1)) ∧
                              ∀ (to : Int),
                                I_1 to →
                                  (to < (↑widths.length : Int) → inI64 (to + 1)) ∧
                                    (to < (↑widths.length : Int) → 0 ≤ at_) ∧
                                      (to < (↑widths.length : Int) → at_ ≤ to + 1) ∧
                                        (to < (↑widths.length : Int) → to + 1 ≤ (↑widths.length : Int)) ∧
                                          (to < (↑widths.length : Int) →
                                              wideOk (List.drop at_.toNat (List.take (to + 1).toNat widths))) ∧
                                            (to < (↑widths.length : Int) ∧
                                                  lineWide (List.drop at_.toNat (List.take (to + 1).toNat widths)) ≤
                                                    wide →
                                                inI64 (to + 1) ∧
                                                  out ++ [at_] = out ++ [at_] ∧ I_1 (to + 1) ∧ m_1 (to + 1) < m_1 to) ∧
                                              (¬(to < (↑widths.length : Int) ∧
                                                    lineWide (List.drop at_.toNat (List.take (to + 1).toNat widths)) ≤
                                                      wide) →
                                                I to (out ++ [at_]) ∧ m to (out ++ [at_]) < m at_ out)) ∧
                  (¬at_ < (↑widths.length : Int) →
                    out = (wrapGreedy widths wide).fst ∧ 0 = (wrapGreedy widths wide).snd))) :
    Con Try.prog f_ref_WrapGreedy ref_WrapGreedy_ct := fun x hx =>
  con_eq hC (L := []) (trivial) ref_WrapGreedy_ok (ct := ref_WrapGreedy_ct) (depth := 0) (by kernel_rfl) x (H (@id (List Int × Int) x).1 (@id (List Int × Int) x).2 (mpr' hx (by kernel_rfl))) (by kernel_rfl)

theorem law_sameInts_vc (hC : Cons Try.prog [])
    (H : ∀ (a : List Int) (b : List Int), (fitL a ∧ fitL b) →
  ((↑a.length : Int) ≠ (↑b.length : Int) → false = bo (a = b)) ∧
  (¬(↑a.length : Int) ≠ (↑b.length : Int) →
    ∃ (I : Int → Prop),
      ∃ (m : Int → Nat),
        I 0 ∧
          ∀ (i : Int),
            I i →
              (i < (↑a.length : Int) →
                  0 ≤ i ∧
                    i < (↑a.length : Int) ∧
                      0 ≤ i ∧
                        i < (↑b.length : Int) ∧
                          (gt a i ≠ gt b i → false = bo (a = b)) ∧
                            (¬gt a i ≠ gt b i → inI64 (i + 1) ∧ I (i + 1) ∧ m (i + 1) < m i)) ∧
                (¬i < (↑a.length : Int) → true = bo (a = b)))) :
    Con Try.prog f_law_sameInts law_sameInts_ct := fun x hx =>
  con_eq hC (L := []) (trivial) law_sameInts_ok (ct := law_sameInts_ct) (depth := 0) (by kernel_rfl) x (H (@id (List Int × List Int) x).1 (@id (List Int × List Int) x).2 (mpr' hx (by kernel_rfl))) (by kernel_rfl)

theorem law_WrapGreedies_vc (hC : Cons Try.prog [(f_wrap_Greedy, wrap_Greedy_ct), (f_ref_WrapGreedy, ref_WrapGreedy_ct), (f_law_sameInts, law_sameInts_ct)])
    (H : ∀ (widths : List Int) (wide : Int), ((widths.length ≤ 140737488351232 ∧ ∀ (x : Int), List.Mem x widths → IntKind.i64.min ≤ x ∧ x ≤ IntKind.i64.max) ∧
  IntKind.i64.min ≤ wide ∧ wide ≤ IntKind.i64.max) →
  True ∧
  True ∧
    (fitL (wrapGreedy widths wide).fst ∧ fitL (wrapGreedy widths wide).fst) ∧
      bo
          (bo ((wrapGreedy widths wide).fst = (wrapGreedy widths wide).fst) = true ∧
            (wrapGreedy widths wide).snd = (wrapGreedy widths wide).snd) =
        true) :
    Con Try.prog f_law_WrapGreedies law_WrapGreedies_ct := fun x hx =>
  con_eq hC (L := []) (trivial) law_WrapGreedies_ok (ct := law_WrapGreedies_ct) (depth := 0) (by kernel_rfl) x (H (@id (List Int × Int) x).1 (@id (List Int × Int) x).2 (mpr' hx (by kernel_rfl))) (by kernel_rfl)

end Go.Proofs.Ytcgggoaefceokaa
