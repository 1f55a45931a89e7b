/- The typed conditions of the functions, printed by a program of the claim's author; each gives the contract of its function. Conditions: none. -/
import Derived.Test.YtgnhlecfladigaaGLinesStarts
import Derived.Test.YtgnhlecfladigaaVpA
import Derived.Test.YtgnhlecfladigaaVpB
import Derived.Test.YtgnhlecfladigaaVpC
import Derived.Test.YtgnhlecfladigaaBase
set_option linter.unusedVariables false
set_option linter.unusedSimpArgs false
set_option maxRecDepth 100000
namespace Go.Proofs.Ytgnhlecfladigaa
open Go.Vc Go.Fu

theorem lines_Of_vc (hC : Cons Try.prog [])
    (H : ∀ (text : List UInt8), (text.length ≤ 1000000) →
  ∃ (I : Int → List Int → Prop),
  ∃ (m : Int → List Int → Nat),
    I 0 [0] ∧
      ∀ (x : Int) (out : List Int),
        I x out →
          (x < (↑text.length : Int) →
              0 ≤ x ∧
                x < (↑text.length : Int) ∧
                  ((↑(gt text x).toNat : Int) = 10 →
                      inI64 (x + 1) ∧
                        (out.length + 1) * 8 ≤ 140737488355328 ∧
                          inI64 (x + 1) ∧ I (x + 1) (out ++ [x + 1]) ∧ m (x + 1) (out ++ [x + 1]) < m x out) ∧
                    (¬(↑(gt text x).toNat : Int) = 10 → inI64 (x + 1) ∧ I (x + 1) out ∧ m (x + 1) out < m x out)) ∧
            (¬x < (↑text.length : Int) → out = startsOf text)) :
    Con Try.prog f_lines_Of lines_Of_ct := fun x hx =>
  con_eq hC (L := []) (trivial) lines_Of_ok (ct := lines_Of_ct) (depth := 0) (by kernel_rfl) x (H (@id (List UInt8) x) (mpr' hx (by kernel_rfl))) (by kernel_rfl)

theorem lines_Starts_vc (hC : Cons Try.prog [(f_lines_Of, lines_Of_ct)])
    (H : ∀ (text : List UInt8), (fitS text) →
  (600 < (↑text.length : Int) → [] = (linesStarts text).fst ∧ 1 = (linesStarts text).snd) ∧
  (¬600 < (↑text.length : Int) →
    text.length ≤ 1000000 ∧ startsOf text = (linesStarts text).fst ∧ 0 = (linesStarts text).snd)) :
    Con Try.prog f_lines_Starts lines_Starts_ct := fun x hx =>
  con_eq hC (L := []) (trivial) lines_Starts_ok (ct := lines_Starts_ct) (depth := 0) (by kernel_rfl) x (H (@id (List UInt8) x) (mpr' hx (by kernel_rfl))) (by kernel_rfl)

theorem ref_cutLines_vc (hC : Cons Try.prog [])
    (H : ∀ (text : List UInt8), (text.length ≤ 1000000) →
  ∃ (I : Int → List (List UInt8) → Prop),
  ∃ (m : Int → List (List UInt8) → Nat),
    I 0 [[]] ∧
      ∀ (i : Int) (out : List (List UInt8)),
        I i out →
          (i < (↑text.length : Int) →
              0 ≤ i ∧
                i < (↑text.length : Int) ∧
                  ((↑(gt text i).toNat : Int) = 10 →
                      (out.length + 1) * 16 ≤ 140737488355328 ∧
                        inI64 (i + 1) ∧ I (i + 1) (out ++ [[]]) ∧ m (i + 1) (out ++ [[]]) < m i out) ∧
                    (¬(↑(gt text i).toNat : Int) = 10 →
                      inI64 ((↑out.length : Int) - 1) ∧
                        0 ≤ (↑out.length : Int) - 1 ∧
                          (↑out.length : Int) - 1 < (↑out.length : Int) ∧
                            inI64 (i + 1) ∧
                              0 ≤ i ∧
                                i ≤ i + 1 ∧
                                  i + 1 ≤ (↑text.length : Int) ∧
                                    inI64
                                        ((↑(gt out ((↑out.length : Int) - 1)).length : Int) +
                                          (↑(List.drop i.toNat (List.take (i + 1).toNat text)).length : Int)) ∧
                                      0 ≤ (↑out.length : Int) - 1 ∧
                                        (↑out.length : Int) - 1 < (↑out.length : Int) ∧
                                          inI64 (i + 1) ∧
                                            I (i + 1)
                                                (out.set ((↑out.length : Int) - 1).toNat
                                                  (gt out ((↑out.length : Int) - 1) ++
                                                    List.drop i.toNat (List.take (i + 1).toNat text))) ∧
                                              m (i + 1)
                                                  (out.set ((↑out.length : Int) - 1).toNat
                                                    (gt out ((↑out.length : Int) - 1) ++
                                                      List.drop i.toNat (List.take (i + 1).toNat text))) <
                                                m i out)) ∧
            (¬i < (↑text.length : Int) → out = cutLines text)) :
    Con Try.prog f_ref_cutLines ref_cutLines_ct := fun x hx =>
  con_eq hC (L := []) (trivial) ref_cutLines_ok (ct := ref_cutLines_ct) (depth := 0) (by kernel_rfl) x (H (@id (List UInt8) x) (mpr' hx (by kernel_rfl))) (by kernel_rfl)

theorem ref_LinesStarts_vc (hC : Cons Try.prog [(f_ref_cutLines, ref_cutLines_ct)])
    (H : ∀ (text : List UInt8), (fitS text) →
  (600 < (↑text.length : Int) → [] = (linesStarts text).fst ∧ 1 = (linesStarts text).snd) ∧
  (¬600 < (↑text.length : Int) →
    text.length ≤ 1000000 ∧
      ∃ (I : Int → Int → List Int → Prop),
        ∃ (m : Int → Int → List Int → Nat),
          (cutLines text = cutLines text ∧ I 0 0 []) ∧
            ∀ (at_ x : Int) (out : List Int),
              I at_ x out →
                (x < (↑(cutLines text).length : Int) →
                    0 ≤ x ∧
                      x < (↑(cutLines text).length : Int) ∧
                        (out.length + 1) * 8 ≤ 140737488355328 ∧
                          inI64 ((↑(gt (cutLines text) x).length : Int) + 1) ∧
                            inI64 (at_ + ((↑(gt (cutLines text) x).length : Int) + 1)) ∧
                              inI64 (x + 1) ∧
                                cutLines text = cutLines text ∧
                                  I (at_ + ((↑(gt (cutLines text) x).length : Int) + 1)) (x + 1) (out ++ [at_]) ∧
                                    m (at_ + ((↑(gt (cutLines text) x).length : Int) + 1)) (x + 1) (out ++ [at_]) <
                                      m at_ x out) ∧
                  (¬x < (↑(cutLines text).length : Int) → out = (linesStarts text).fst ∧ 0 = (linesStarts text).snd))) :
    Con Try.prog f_ref_LinesStarts ref_LinesStarts_ct := fun x hx =>
  con_eq hC (L := []) (trivial) ref_LinesStarts_ok (ct := ref_LinesStarts_ct) (depth := 0) (by kernel_rfl) x (H (@id (List UInt8) x) (mpr' hx (by kernel_rfl))) (by kernel_rfl)

theorem law_sameInts_vc (hC : Cons Try.prog [])
    (H : ∀ (a : List Int) (b : List Int), (fitL a ∧ fitL b) →
  ((↑a.length : Int) ≠ (↑b.length : Int) → false = bo (a = b)) ∧
  (¬(↑a.length : Int) ≠ (↑b.length : Int) →
    ∃ (I : Int → Prop),
      ∃ (m : Int → Nat),
        I 0 ∧
          ∀ (i : Int),
            I i →
              (i < (↑a.length : Int) →
                  0 ≤ i ∧
                    i < (↑a.length : Int) ∧
                      0 ≤ i ∧
                        i < (↑b.length : Int) ∧
                          (gt a i ≠ gt b i → false = bo (a = b)) ∧
                            (¬gt a i ≠ gt b i → inI64 (i + 1) ∧ I (i + 1) ∧ m (i + 1) < m i)) ∧
                (¬i < (↑a.length : Int) → true = bo (a = b)))) :
    Con Try.prog f_law_sameInts law_sameInts_ct := fun x hx =>
  con_eq hC (L := []) (trivial) law_sameInts_ok (ct := law_sameInts_ct) (depth := 0) (by kernel_rfl) x (H (@id (List Int × List Int) x).1 (@id (List Int × List Int) x).2 (mpr' hx (by kernel_rfl))) (by kernel_rfl)

theorem law_LinesStarts_vc (hC : Cons Try.prog [(f_lines_Starts, lines_Starts_ct), (f_ref_LinesStarts, ref_LinesStarts_ct), (f_law_sameInts, law_sameInts_ct)])
    (H : ∀ (text : List UInt8), (text.length.le 140737488351232) →
  fitS text ∧
  fitS text ∧
    (fitL (linesStarts text).fst ∧ fitL (linesStarts text).fst) ∧
      bo
          (bo ((linesStarts text).fst = (linesStarts text).fst) = true ∧
            (linesStarts text).snd = (linesStarts text).snd) =
        true) :
    Con Try.prog f_law_LinesStarts law_LinesStarts_ct := fun x hx =>
  con_eq hC (L := []) (trivial) law_LinesStarts_ok (ct := law_LinesStarts_ct) (depth := 0) (by kernel_rfl) x (H (@id (List UInt8) x) (mpr' hx (by kernel_rfl))) (by kernel_rfl)

end Go.Proofs.Ytgnhlecfladigaa
