/- The typed conditions of the functions, printed by a program of the claim's author; each gives the contract of its function. Conditions: none. -/
import Derived.Test.YtcgggoaefceokaaGLinesLines
import Derived.Test.YtcgggoaefceokaaVpA
import Derived.Test.YtcgggoaefceokaaVpB
import Derived.Test.YtcgggoaefceokaaVpC
import Derived.Test.YtcgggoaefceokaaVpD
import Derived.Test.YtcgggoaefceokaaVpE
import Derived.Test.YtcgggoaefceokaaVpG
import Derived.Test.YtcgggoaefceokaaVpI
import Derived.Test.YtcgggoaefceokaaVpK
import Derived.Test.YtcgggoaefceokaaBase
set_option linter.unusedVariables false
set_option linter.unusedSimpArgs false
set_option maxRecDepth 100000
namespace Go.Proofs.Ytcgggoaefceokaa
open Go.Vc Go.Fu

theorem lines_may_vc (hC : Cons Try.prog [])
    (H : ∀ (l : List Int), (fitL l) →
  ∃ (I : Int → Prop),
  ∃ (m : Int → Nat),
    I (0 : Int) ∧
      ∀ (x : Int),
        I x →
          (x < (↑l.length : Int) →
              (0 : Int) ≤ x ∧
                x < (↑l.length : Int) ∧
                  ((0 : Int) < x → inI64 (x - (1 : Int))) ∧
                    ((0 : Int) < x → (0 : Int) ≤ x - (1 : Int)) ∧
                      ((0 : Int) < x → x - (1 : Int) < (↑l.length : Int)) ∧
                        ((0 : Int) < x ∧ gt l x ≤ gt l (x - (1 : Int)) → false = bo (startsOk l)) ∧
                          (¬((0 : Int) < x ∧ gt l x ≤ gt l (x - (1 : Int))) →
                            inI64 (x + (1 : Int)) ∧ I (x + (1 : Int)) ∧ m (x + (1 : Int)) < m x)) ∧
            (¬x < (↑l.length : Int) →
              ((0 : Int) < (↑l.length : Int) → (0 : Int) ≤ (0 : Int)) ∧
                ((0 : Int) < (↑l.length : Int) → (0 : Int) < (↑l.length : Int)) ∧
                  ((0 : Int) < (↑l.length : Int) ∧ gt l (0 : Int) = (0 : Int) → inI64 ((↑l.length : Int) - (1 : Int))) ∧
                    ((0 : Int) < (↑l.length : Int) ∧ gt l (0 : Int) = (0 : Int) →
                        (0 : Int) ≤ (↑l.length : Int) - (1 : Int)) ∧
                      ((0 : Int) < (↑l.length : Int) ∧ gt l (0 : Int) = (0 : Int) →
                          (↑l.length : Int) - (1 : Int) < (↑l.length : Int)) ∧
                        bo
                            (((0 : Int) < (↑l.length : Int) ∧ gt l (0 : Int) = (0 : Int)) ∧
                              gt l ((↑l.length : Int) - (1 : Int)) ≤ (600 : Int)) =
                          bo (startsOk l))) :
    Con Try.prog f_lines_may lines_may_ct := fun x hx =>
  con_eq hC (L := []) (trivial) lines_may_ok (ct := lines_may_ct) (depth := 0) (by kernel_rfl) x (H (@id (List Int) x) (mpr' hx (by kernel_rfl))) (by kernel_rfl)

theorem lines_Line_vc (hC : Cons Try.prog [(f_lines_may, lines_may_ct)])
    (H : ∀ (starts : List Int) (at_ : Int), (fitL starts) →
  fitL starts ∧
  (¬bo (startsOk starts) = true → (0 : Int) = (linesLine starts at_).fst ∧ (4 : Int) = (linesLine starts at_).snd) ∧
    (¬¬bo (startsOk starts) = true →
      (at_ < (0 : Int) → (0 : Int) = (linesLine starts at_).fst ∧ (2 : Int) = (linesLine starts at_).snd) ∧
        (¬at_ < (0 : Int) →
          ∃ (I : Int → Int → List Int → Int → Prop),
            ∃ (m : Int → Int → List Int → Int → Nat),
              I (0 : Int) (↑starts.length : Int) starts at_ ∧
                ∀ (i j : Int) (f : List Int) (f_1 : Int),
                  I i j f f_1 →
                    (i < j →
                        inI64 (i + j) ∧
                          (0 : Int) ≤ (1 : Int) ∧
                            inI64
                                ((IntKind.u64.wrap (i + j)).fdiv
                                  ((2 : Int) ^ min (Int.toNat (1 : Int)) IntKind.u64.bits)) ∧
                              (0 : Int) ≤
                                  (IntKind.u64.wrap (i + j)).fdiv
                                    ((2 : Int) ^ min (Int.toNat (1 : Int)) IntKind.u64.bits) ∧
                                (IntKind.u64.wrap (i + j)).fdiv
                                      ((2 : Int) ^ min (Int.toNat (1 : Int)) IntKind.u64.bits) <
                                    (↑f.length : Int) ∧
                                  (¬f_1 <
                                          gt f
                                            ((IntKind.u64.wrap (i + j)).fdiv
                                              ((2 : Int) ^ min (Int.toNat (1 : Int)) IntKind.u64.bits)) →
                                      inI64
                                          ((IntKind.u64.wrap (i + j)).fdiv
                                              ((2 : Int) ^ min (Int.toNat (1 : Int)) IntKind.u64.bits) +
                                            (1 : Int)) ∧
                                        I
                                            ((IntKind.u64.wrap (i + j)).fdiv
                                                ((2 : Int) ^ min (Int.toNat (1 : Int)) IntKind.u64.bits) +
                                              (1 : Int))
                                            j f f_1 ∧
                                          m
                                              ((IntKind.u64.wrap (i + j)).fdiv
                                                  ((2 : Int) ^ min (Int.toNat (1 : Int)) IntKind.u64.bits) +
                                                (1 : Int))
                                              j f f_1 <
                                            m i j f f_1) ∧
                                    (¬¬f_1 <
                                            gt f
                                              ((IntKind.u64.wrap (i + j)).fdiv
                                                ((2 : Int) ^ min (Int.toNat (1 : Int)) IntKind.u64.bits)) →
                                      I i
                                          ((IntKind.u64.wrap (i + j)).fdiv
                                            ((2 : Int) ^ min (Int.toNat (1 : Int)) IntKind.u64.bits))
                                          f f_1 ∧
                                        m i
                                            ((IntKind.u64.wrap (i + j)).fdiv
                                              ((2 : Int) ^ min (Int.toNat (1 : Int)) IntKind.u64.bits))
                                            f f_1 <
                                          m i j f f_1)) ∧
                      (¬i < j →
                        inI64 (i - (1 : Int)) ∧
                          i - (1 : Int) = (linesLine starts at_).fst ∧ (0 : Int) = (linesLine starts at_).snd)))) :
    Con Try.prog f_lines_Line lines_Line_ct := fun x hx =>
  con_eq hC (L := [(f_sort_Search, sort_Search_fi), (f_lines_Line_1, lines_Line_1_fi)]) (⟨sort_Search_ok, lines_Line_1_ok, trivial⟩) lines_Line_ok (ct := lines_Line_ct) (depth := 4) (by kernel_rfl) x (H (@id (List Int × Int) x).1 (@id (List Int × Int) x).2 (mpr' hx (by kernel_rfl))) (by kernel_rfl)

theorem ref_startsMay_vc (hC : Cons Try.prog [])
    (H : ∀ (l : List Int), (fitL l) →
  (¬(↑l.length : Int) = (0 : Int) → (0 : Int) ≤ (0 : Int)) ∧
  (¬(↑l.length : Int) = (0 : Int) → (0 : Int) < (↑l.length : Int)) ∧
    ((↑l.length : Int) = (0 : Int) ∨ gt l (0 : Int) ≠ (0 : Int) → false = bo (startsOk l)) ∧
      (¬((↑l.length : Int) = (0 : Int) ∨ gt l (0 : Int) ≠ (0 : Int)) →
        ∃ (I : Int → Prop),
          ∃ (m : Int → Nat),
            I (1 : Int) ∧
              ∀ (i : Int),
                I i →
                  (i < (↑l.length : Int) →
                      (0 : Int) ≤ i ∧
                        i < (↑l.length : Int) ∧
                          inI64 (i - (1 : Int)) ∧
                            (0 : Int) ≤ i - (1 : Int) ∧
                              i - (1 : Int) < (↑l.length : Int) ∧
                                (¬gt l i ≤ gt l (i - (1 : Int)) → (0 : Int) ≤ i) ∧
                                  (¬gt l i ≤ gt l (i - (1 : Int)) → i < (↑l.length : Int)) ∧
                                    (gt l i ≤ gt l (i - (1 : Int)) ∨ (600 : Int) < gt l i → false = bo (startsOk l)) ∧
                                      (¬(gt l i ≤ gt l (i - (1 : Int)) ∨ (600 : Int) < gt l i) →
                                        inI64 (i + (1 : Int)) ∧ I (i + (1 : Int)) ∧ m (i + (1 : Int)) < m i)) ∧
                    (¬i < (↑l.length : Int) → true = bo (startsOk l)))) :
    Con Try.prog f_ref_startsMay ref_startsMay_ct := fun x hx =>
  con_eq hC (L := []) (trivial) ref_startsMay_ok (ct := ref_startsMay_ct) (depth := 0) (by kernel_rfl) x (H (@id (List Int) x) (mpr' hx (by kernel_rfl))) (by kernel_rfl)

theorem ref_LinesLine_vc (hC : Cons Try.prog [(f_ref_startsMay, ref_startsMay_ct)])
    (H : ∀ (starts : List Int) (at_ : Int), (fitL starts) →
  fitL starts ∧
  (¬bo (startsOk starts) = true → 0 = (linesLine starts at_).fst ∧ 4 = (linesLine starts at_).snd) ∧
    (¬¬bo (startsOk starts) = true →
      (at_ < 0 → 0 = (linesLine starts at_).fst ∧ 2 = (linesLine starts at_).snd) ∧
        (¬at_ < 0 →
          ∃ (I : Int → Int → Prop),
            ∃ (m : Int → Int → Nat),
              I 0 0 ∧
                ∀ (n x : Int),
                  I n x →
                    (x < (↑starts.length : Int) →
                        0 ≤ x ∧
                          x < (↑starts.length : Int) ∧
                            inI64 (x + 1) ∧
                              I (iteP (gt starts x ≤ at_) x n) (x + 1) ∧
                                m (iteP (gt starts x ≤ at_) x n) (x + 1) < m n x) ∧
                      (¬x < (↑starts.length : Int) → n = (linesLine starts at_).fst ∧ 0 = (linesLine starts at_).snd)))) :
    Con Try.prog f_ref_LinesLine ref_LinesLine_ct := fun x hx =>
  con_eq hC (L := []) (trivial) ref_LinesLine_ok (ct := ref_LinesLine_ct) (depth := 0) (by kernel_rfl) x (H (@id (List Int × Int) x).1 (@id (List Int × Int) x).2 (mpr' hx (by kernel_rfl))) (by kernel_rfl)

theorem law_LinesLines_vc (hC : Cons Try.prog [(f_lines_Line, lines_Line_ct), (f_ref_LinesLine, ref_LinesLine_ct)])
    (H : ∀ (starts : List Int) (at_ : Int), ((starts.length ≤ 140737488351232 ∧ ∀ (x : Int), List.Mem x starts → IntKind.i64.min ≤ x ∧ x ≤ IntKind.i64.max) ∧
  IntKind.i64.min ≤ at_ ∧ at_ ≤ IntKind.i64.max) →
  fitL starts ∧
  fitL starts ∧
    bo
        ((linesLine starts at_).fst = (linesLine starts at_).fst ∧
          (linesLine starts at_).snd = (linesLine starts at_).snd) =
      true) :
    Con Try.prog f_law_LinesLines law_LinesLines_ct := fun x hx =>
  con_eq hC (L := []) (trivial) law_LinesLines_ok (ct := law_LinesLines_ct) (depth := 0) (by kernel_rfl) x (H (@id (List Int × Int) x).1 (@id (List Int × Int) x).2 (mpr' hx (by kernel_rfl))) (by kernel_rfl)

end Go.Proofs.Ytcgggoaefceokaa
