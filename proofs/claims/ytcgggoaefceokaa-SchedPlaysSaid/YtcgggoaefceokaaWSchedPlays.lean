/- The typed conditions of the functions, printed by a program of the claim's author; each gives the contract of its function. Conditions: none. -/
import Derived.Test.YtcgggoaefceokaaGSchedPlays
import Derived.Test.YtcgggoaefceokaaVpA
import Derived.Test.YtcgggoaefceokaaVpB
import Derived.Test.YtcgggoaefceokaaVpC
import Derived.Test.YtcgggoaefceokaaVpE
import Derived.Test.YtcgggoaefceokaaVpH
import Derived.Test.YtcgggoaefceokaaVpM
import Derived.Test.YtcgggoaefceokaaBase
set_option linter.unusedVariables false
set_option linter.unusedSimpArgs false
set_option maxRecDepth 100000
namespace Go.Proofs.Ytcgggoaefceokaa
open Go.Vc Go.Fu

theorem sched_Play_vc (hC : Cons Try.prog [])
    (H : ∀ (l : List (Int × Int)), (True) →
  ((80 : Int) < (↑l.length : Int) → [] = (schedPlay l).fst ∧ (1 : Int) = (schedPlay l).snd) ∧
  (¬(80 : Int) < (↑l.length : Int) →
    ∃ (I : Int → Int → Int → Int → List (Int × Int × Int × Bool) → List (Int × Int) → Prop),
      ∃ (m : Int → Int → Int → Int → List (Int × Int × Int × Bool) → List (Int × Int) → Nat),
        I (0 : Int) (0 : Int) (↑(0 : Nat) : Int) (0 : Int) [] [] ∧
          ∀ (x r r_1 r_2 : Int) (out : List (Int × Int × Int × Bool)) (r_3 : List (Int × Int)),
            I x r r_1 r_2 out r_3 →
              (x < (↑l.length : Int) →
                  (0 : Int) ≤ x ∧
                    x < (↑l.length : Int) ∧
                      ((gt l x).fst = (1 : Int) →
                          ((gt l x).snd < (0 : Int) ∨ (600 : Int) < (gt l x).snd →
                              (out.length + (1 : Nat)) * (32 : Nat) ≤ (140737488355328 : Nat) ∧
                                inI64 (x + (1 : Int)) ∧
                                  I (x + (1 : Int)) r r_1 r_2 (out ++ [((2 : Int), (0 : Int), (0 : Int), false)]) r_3 ∧
                                    m (x + (1 : Int)) r r_1 r_2 (out ++ [((2 : Int), (0 : Int), (0 : Int), false)])
                                        r_3 <
                                      m x r r_1 r_2 out r_3) ∧
                            (¬((gt l x).snd < (0 : Int) ∨ (600 : Int) < (gt l x).snd) →
                              inI64 (r_2 + (1 : Int)) ∧
                                ((0 : Int) < (gt l x).snd →
                                    (r_1.toNat + (1 : Nat)) * (16 : Nat) ≤ (140737488355328 : Nat) ∧
                                      (out.length + (1 : Nat)) * (32 : Nat) ≤ (140737488355328 : Nat) ∧
                                        inI64 (x + (1 : Int)) ∧
                                          I (x + (1 : Int)) (0 : Int)
                                              (↑(List.take r_1.toNat (List.drop r.toNat r_3) ++
                                                      [(r_2, (gt l x).snd)]).length :
                                                Int)
                                              (r_2 + (1 : Int))
                                              (out ++ [((0 : Int), r_2, (0 : Int), bo ((gt l x).snd = (0 : Int)))])
                                              (List.take r_1.toNat (List.drop r.toNat r_3) ++ [(r_2, (gt l x).snd)]) ∧
                                            m (x + (1 : Int)) (0 : Int)
                                                (↑(List.take r_1.toNat (List.drop r.toNat r_3) ++
                                                        [(r_2, (gt l x).snd)]).length :
                                                  Int)
                                                (r_2 + (1 : Int))
                                                (out ++ [((0 : Int), r_2, (0 : Int), bo ((gt l x).snd = (0 : Int)))])
                                                (List.take r_1.toNat (List.drop r.toNat r_3) ++ [(r_2, (gt l x).snd)]) <
                                              m x r r_1 r_2 out r_3) ∧
                                  (¬(0 : Int) < (gt l x).snd →
                                    (out.length + (1 : Nat)) * (32 : Nat) ≤ (140737488355328 : Nat) ∧
                                      inI64 (x + (1 : Int)) ∧
                                        I (x + (1 : Int)) r r_1 (r_2 + (1 : Int))
                                            (out ++ [((0 : Int), r_2, (0 : Int), bo ((gt l x).snd = (0 : Int)))]) r_3 ∧
                                          m (x + (1 : Int)) r r_1 (r_2 + (1 : Int))
                                              (out ++ [((0 : Int), r_2, (0 : Int), bo ((gt l x).snd = (0 : Int)))])
                                              r_3 <
                                            m x r r_1 r_2 out r_3))) ∧
                        (¬(gt l x).fst = (1 : Int) →
                          ((gt l x).fst = (2 : Int) →
                              ((gt l x).snd < (1 : Int) ∨ (50 : Int) < (gt l x).snd →
                                  (out.length + (1 : Nat)) * (32 : Nat) ≤ (140737488355328 : Nat) ∧
                                    inI64 (x + (1 : Int)) ∧
                                      I (x + (1 : Int)) r r_1 r_2 (out ++ [((2 : Int), (0 : Int), (0 : Int), false)])
                                          r_3 ∧
                                        m (x + (1 : Int)) r r_1 r_2 (out ++ [((2 : Int), (0 : Int), (0 : Int), false)])
                                            r_3 <
                                          m x r r_1 r_2 out r_3) ∧
                                (¬((gt l x).snd < (1 : Int) ∨ (50 : Int) < (gt l x).snd) →
                                  (r_1 = (0 : Int) →
                                      (out.length + (1 : Nat)) * (32 : Nat) ≤ (140737488355328 : Nat) ∧
                                        inI64 (x + (1 : Int)) ∧
                                          I (x + (1 : Int)) r r_1 r_2
                                              (out ++ [((7 : Int), (0 : Int), (0 : Int), false)]) r_3 ∧
                                            m (x + (1 : Int)) r r_1 r_2
                                                (out ++ [((7 : Int), (0 : Int), (0 : Int), false)]) r_3 <
                                              m x r r_1 r_2 out r_3) ∧
                                    (¬r_1 = (0 : Int) →
                                      (0 : Int) ≤ (0 : Int) ∧
                                        (0 : Int) < r_1 ∧
                                          (0 : Int) ≤ (1 : Int) ∧
                                            (1 : Int) ≤ r_1 ∧
                                              r_1 ≤ r_1 ∧
                                                inI64
                                                    ((gt r_3 (r + (0 : Int))).snd -
                                                      min (gt l x).snd (gt r_3 (r + (0 : Int))).snd) ∧
                                                  ((0 : Int) <
                                                        (gt r_3 (r + (0 : Int))).snd -
                                                          min (gt l x).snd (gt r_3 (r + (0 : Int))).snd →
                                                      ((r_1 - (1 : Int)).toNat + (1 : Nat)) * (16 : Nat) ≤
                                                          (140737488355328 : Nat) ∧
                                                        (out.length + (1 : Nat)) * (32 : Nat) ≤
                                                            (140737488355328 : Nat) ∧
                                                          inI64 (x + (1 : Int)) ∧
                                                            I (x + (1 : Int)) (0 : Int)
                                                                (↑(List.take (r_1 - (1 : Int)).toNat
                                                                          (List.drop (r + (1 : Int)).toNat r_3) ++
                                                                        [((gt r_3 (r + (0 : Int))).fst,
                                                                            (gt r_3 (r + (0 : Int))).snd -
                                                                              min (gt l x).snd
                                                                                (gt r_3 (r + (0 : Int))).snd)]).length :
                                                                  Int)
                                                                r_2
                                                                (out ++
                                                                  [((0 : Int), (gt r_3 (r + (0 : Int))).fst,
                                                                      min (gt l x).snd (gt r_3 (r + (0 : Int))).snd,
                                                                      bo
                                                                        ((gt r_3 (r + (0 : Int))).snd -
                                                                            min (gt l x).snd
                                                                              (gt r_3 (r + (0 : Int))).snd =
                                                                          (0 : Int)))])
                                                                (List.take (r_1 - (1 : Int)).toNat
                                                                    (List.drop (r + (1 : Int)).toNat r_3) ++
                                                                  [((gt r_3 (r + (0 : Int))).fst,
                                                                      (gt r_3 (r + (0 : Int))).snd -
                                                                        min (gt l x).snd
                                                                          (gt r_3 (r + (0 : Int))).snd)]) ∧
                                                              m (x + (1 : Int)) (0 : Int)
                                                                  (↑(List.take (r_1 - (1 : Int)).toNat
                                                                            (List.drop (r + (1 : Int)).toNat r_3) ++
                                                                          [((gt r_3 (r + (0 : Int))).fst,
                                                                              (gt r_3 (r + (0 : Int))).snd -
                                                                                min (gt l x).snd
                                                                                  (gt r_3
                                                                                      (r + (0 : Int))).snd)]).length :
                                                                    Int)
                                                                  r_2
                                                                  (out ++
                                                                    [((0 : Int), (gt r_3 (r + (0 : Int))).fst,
                                                                        min (gt l x).snd (gt r_3 (r + (0 : Int))).snd,
                                                                        bo
                                                                          ((gt r_3 (r + (0 : Int))).snd -
                                                                              min (gt l x).snd
                                                                                (gt r_3 (r + (0 : Int))).snd =
                                                                            (0 : Int)))])
                                                                  (List.take (r_1 - (1 : Int)).toNat
                                                                      (List.drop (r + (1 : Int)).toNat r_3) ++
                                                                    [((gt r_3 (r + (0 : Int))).fst,
                                                                        (gt r_3 (r + (0 : Int))).snd -
                                                                          min (gt l x).snd
                                                                            (gt r_3 (r + (0 : Int))).snd)]) <
                                                                m x r r_1 r_2 out r_3) ∧
                                                    (¬(0 : Int) <
                                                          (gt r_3 (r + (0 : Int))).snd -
                                                            min (gt l x).snd (gt r_3 (r + (0 : Int))).snd →
                                                      (out.length + (1 : Nat)) * (32 : Nat) ≤ (140737488355328 : Nat) ∧
                                                        inI64 (x + (1 : Int)) ∧
                                                          I (x + (1 : Int)) (r + (1 : Int)) (r_1 - (1 : Int)) r_2
                                                              (out ++
                                                                [((0 : Int), (gt r_3 (r + (0 : Int))).fst,
                                                                    min (gt l x).snd (gt r_3 (r + (0 : Int))).snd,
                                                                    bo
                                                                      ((gt r_3 (r + (0 : Int))).snd -
                                                                          min (gt l x).snd
                                                                            (gt r_3 (r + (0 : Int))).snd =
                                                                        (0 : Int)))])
                                                              r_3 ∧
                                                            m (x + (1 : Int)) (r + (1 : Int)) (r_1 - (1 : Int)) r_2
                                                                (out ++
                                                                  [((0 : Int), (gt r_3 (r + (0 : Int))).fst,
                                                                      min (gt l x).snd (gt r_3 (r + (0 : Int))).snd,
                                                                      bo
                                                                        ((gt r_3 (r + (0 : Int))).snd -
                                                                            min (gt l x).snd
                                                                              (gt r_3 (r + (0 : Int))).snd =
                                                                          (0 : Int)))])
                                                                r_3 <
                                                              m x r r_1 r_2 out r_3)))) ∧
                            (¬(gt l x).fst = (2 : Int) →
                              (out.length + (1 : Nat)) * (32 : Nat) ≤ (140737488355328 : Nat) ∧
                                inI64 (x + (1 : Int)) ∧
                                  I (x + (1 : Int)) r r_1 r_2 (out ++ [((3 : Int), (0 : Int), (0 : Int), false)]) r_3 ∧
                                    m (x + (1 : Int)) r r_1 r_2 (out ++ [((3 : Int), (0 : Int), (0 : Int), false)])
                                        r_3 <
                                      m x r r_1 r_2 out r_3))) ∧
                (¬x < (↑l.length : Int) → out = (schedPlay l).fst ∧ (0 : Int) = (schedPlay l).snd))) :
    Con Try.prog f_sched_Play sched_Play_ct := ⟨sched_Play_ok.able, fun x hx =>
  con_eq hC (L := [(f___sched_ring__push, __sched_ring__push_fi), (f___sched_ring__turn, __sched_ring__turn_fi)]) (⟨__sched_ring__push_ok, __sched_ring__turn_ok, trivial⟩) sched_Play_ok (ct := sched_Play_ct) (depth := 3) (by kernel_rfl) x (H (@id ((List (Int × Int))) x) (mpr' hx (by kernel_rfl))) (by kernel_rfl)⟩

theorem ref_SchedPlayed_vc (hC : Cons Try.prog [])
    (H : ∀ (l : List (Int × Int)), (True) →
  ((80 : Int) < (↑l.length : Int) → [] = (schedPlay l).fst ∧ (1 : Int) = (schedPlay l).snd) ∧
  (¬(80 : Int) < (↑l.length : Int) →
    ∃ (I : Int → Int → List Int → List Int → List (Int × Int × Int × Bool) → Prop),
      ∃ (m : Int → Int → List Int → List Int → List (Int × Int × Int × Bool) → Nat),
        I (0 : Int) (0 : Int) [] [] [] ∧
          ∀ (clock x : Int) (left since : List Int) (out : List (Int × Int × Int × Bool)),
            I clock x left since out →
              (x < (↑l.length : Int) →
                  (0 : Int) ≤ x ∧
                    x < (↑l.length : Int) ∧
                      inI64 (clock + (1 : Int)) ∧
                        ((gt l x).fst = (1 : Int) ∧ ((gt l x).snd < (0 : Int) ∨ (600 : Int) < (gt l x).snd) →
                            (out.length + (1 : Nat)) * (32 : Nat) ≤ (140737488355328 : Nat) ∧
                              inI64 (x + (1 : Int)) ∧
                                I (clock + (1 : Int)) (x + (1 : Int)) left since
                                    (out ++ [((2 : Int), (0 : Int), (0 : Int), false)]) ∧
                                  m (clock + (1 : Int)) (x + (1 : Int)) left since
                                      (out ++ [((2 : Int), (0 : Int), (0 : Int), false)]) <
                                    m clock x left since out) ∧
                          (¬((gt l x).fst = (1 : Int) ∧ ((gt l x).snd < (0 : Int) ∨ (600 : Int) < (gt l x).snd)) →
                            ((gt l x).fst = (1 : Int) →
                                (left.length + (1 : Nat)) * (8 : Nat) ≤ (140737488355328 : Nat) ∧
                                  (since.length + (1 : Nat)) * (8 : Nat) ≤ (140737488355328 : Nat) ∧
                                    (out.length + (1 : Nat)) * (32 : Nat) ≤ (140737488355328 : Nat) ∧
                                      inI64 (x + (1 : Int)) ∧
                                        I (clock + (1 : Int)) (x + (1 : Int)) (left ++ [(gt l x).snd])
                                            (since ++ [clock + (1 : Int)])
                                            (out ++
                                              [((0 : Int), (↑left.length : Int), (0 : Int),
                                                  bo ((gt l x).snd = (0 : Int)))]) ∧
                                          m (clock + (1 : Int)) (x + (1 : Int)) (left ++ [(gt l x).snd])
                                              (since ++ [clock + (1 : Int)])
                                              (out ++
                                                [((0 : Int), (↑left.length : Int), (0 : Int),
                                                    bo ((gt l x).snd = (0 : Int)))]) <
                                            m clock x left since out) ∧
                              (¬(gt l x).fst = (1 : Int) →
                                ((gt l x).fst = (2 : Int) ∧ ((gt l x).snd < (1 : Int) ∨ (50 : Int) < (gt l x).snd) →
                                    (out.length + (1 : Nat)) * (32 : Nat) ≤ (140737488355328 : Nat) ∧
                                      inI64 (x + (1 : Int)) ∧
                                        I (clock + (1 : Int)) (x + (1 : Int)) left since
                                            (out ++ [((2 : Int), (0 : Int), (0 : Int), false)]) ∧
                                          m (clock + (1 : Int)) (x + (1 : Int)) left since
                                              (out ++ [((2 : Int), (0 : Int), (0 : Int), false)]) <
                                            m clock x left since out) ∧
                                  (¬((gt l x).fst = (2 : Int) ∧
                                        ((gt l x).snd < (1 : Int) ∨ (50 : Int) < (gt l x).snd)) →
                                    ((gt l x).fst = (2 : Int) →
                                        ∃ (I_1 : Int → Int → Prop),
                                          ∃ (m_1 : Int → Int → Nat),
                                            (left = left ∧
                                                since = since ∧
                                                  out = out ∧
                                                    (gt l x).fst = (gt l x).fst ∧
                                                      (gt l x).snd = (gt l x).snd ∧
                                                        (0 : Int) = (0 : Int) ∧
                                                          (0 : Int) = (0 : Int) ∧
                                                            (0 : Int) = (0 : Int) ∧ I_1 (-1 : Int) (0 : Int)) ∧
                                              ∀ (t x_1 : Int),
                                                I_1 t x_1 →
                                                  (x_1 < (↑left.length : Int) →
                                                      (0 : Int) ≤ x_1 ∧
                                                        x_1 < (↑left.length : Int) ∧
                                                          ((0 : Int) < gt left x_1 ∧ ¬t < (0 : Int) → (0 : Int) ≤ x_1) ∧
                                                            ((0 : Int) < gt left x_1 ∧ ¬t < (0 : Int) →
                                                                x_1 < (↑since.length : Int)) ∧
                                                              ((0 : Int) < gt left x_1 ∧ ¬t < (0 : Int) →
                                                                  (0 : Int) ≤ t) ∧
                                                                ((0 : Int) < gt left x_1 ∧ ¬t < (0 : Int) →
                                                                    t < (↑since.length : Int)) ∧
                                                                  inI64 (x_1 + (1 : Int)) ∧
                                                                    left = left ∧
                                                                      since = since ∧
                                                                        out = out ∧
                                                                          (gt l x).fst = (gt l x).fst ∧
                                                                            (gt l x).snd = (gt l x).snd ∧
                                                                              (0 : Int) = (0 : Int) ∧
                                                                                (0 : Int) = (0 : Int) ∧
                                                                                  (0 : Int) = (0 : Int) ∧
                                                                                    I_1
                                                                                        (iteP
                                                                                          ((0 : Int) < gt left x_1 ∧
                                                                                            (t < (0 : Int) ∨
                                                                                              gt since x_1 <
                                                                                                gt since t))
                                                                                          x_1 t)
                                                                                        (x_1 + (1 : Int)) ∧
                                                                                      m_1
                                                                                          (iteP
                                                                                            ((0 : Int) < gt left x_1 ∧
                                                                                              (t < (0 : Int) ∨
                                                                                                gt since x_1 <
                                                                                                  gt since t))
                                                                                            x_1 t)
                                                                                          (x_1 + (1 : Int)) <
                                                                                        m_1 t x_1) ∧
                                                    (¬x_1 < (↑left.length : Int) →
                                                      (t < (0 : Int) →
                                                          (out.length + (1 : Nat)) * (32 : Nat) ≤
                                                              (140737488355328 : Nat) ∧
                                                            inI64 (x + (1 : Int)) ∧
                                                              I (clock + (1 : Int)) (x + (1 : Int)) left since
                                                                  (out ++ [((7 : Int), (0 : Int), (0 : Int), false)]) ∧
                                                                m (clock + (1 : Int)) (x + (1 : Int)) left since
                                                                    (out ++
                                                                      [((7 : Int), (0 : Int), (0 : Int), false)]) <
                                                                  m clock x left since out) ∧
                                                        (¬t < (0 : Int) →
                                                          (0 : Int) ≤ t ∧
                                                            t < (↑left.length : Int) ∧
                                                              (0 : Int) ≤ t ∧
                                                                t < (↑left.length : Int) ∧
                                                                  inI64 (gt left t - min (gt l x).snd (gt left t)) ∧
                                                                    (0 : Int) ≤ t ∧
                                                                      t < (↑left.length : Int) ∧
                                                                        (0 : Int) ≤ t ∧
                                                                          t < (↑since.length : Int) ∧
                                                                            (0 : Int) ≤ t ∧
                                                                              t <
                                                                                  (↑(left.set t.toNat
                                                                                          (gt left t -
                                                                                            min (gt l x).snd
                                                                                              (gt left t))).length :
                                                                                    Int) ∧
                                                                                (out.length + (1 : Nat)) * (32 : Nat) ≤
                                                                                    (140737488355328 : Nat) ∧
                                                                                  inI64 (x + (1 : Int)) ∧
                                                                                    I (clock + (1 : Int))
                                                                                        (x + (1 : Int))
                                                                                        (left.set t.toNat
                                                                                          (gt left t -
                                                                                            min (gt l x).snd
                                                                                              (gt left t)))
                                                                                        (since.set t.toNat
                                                                                          (clock + (1 : Int)))
                                                                                        (out ++
                                                                                          [((0 : Int), t,
                                                                                              min (gt l x).snd
                                                                                                (gt left t),
                                                                                              bo
                                                                                                (gt
                                                                                                    (left.set t.toNat
                                                                                                      (gt left t -
                                                                                                        min (gt l x).snd
                                                                                                          (gt left t)))
                                                                                                    t =
                                                                                                  (0 : Int)))]) ∧
                                                                                      m (clock + (1 : Int))
                                                                                          (x + (1 : Int))
                                                                                          (left.set t.toNat
                                                                                            (gt left t -
                                                                                              min (gt l x).snd
                                                                                                (gt left t)))
                                                                                          (since.set t.toNat
                                                                                            (clock + (1 : Int)))
                                                                                          (out ++
                                                                                            [((0 : Int), t,
                                                                                                min (gt l x).snd
                                                                                                  (gt left t),
                                                                                                bo
                                                                                                  (gt
                                                                                                      (left.set t.toNat
                                                                                                        (gt left t -
                                                                                                          min
                                                                                                            (gt l x).snd
                                                                                                            (gt left
                                                                                                              t)))
                                                                                                      t =
                                                                                                    (0 : Int)))]) <
                                                                                        m clock x left since out))) ∧
                                      (¬(gt l x).fst = (2 : Int) →
                                        (out.length + (1 : Nat)) * (32 : Nat) ≤ (140737488355328 : Nat) ∧
                                          inI64 (x + (1 : Int)) ∧
                                            I (clock + (1 : Int)) (x + (1 : Int)) left since
                                                (out ++ [((3 : Int), (0 : Int), (0 : Int), false)]) ∧
                                              m (clock + (1 : Int)) (x + (1 : Int)) left since
                                                  (out ++ [((3 : Int), (0 : Int), (0 : Int), false)]) <
                                                m clock x left since out))))) ∧
                (¬x < (↑l.length : Int) → out = (schedPlay l).fst ∧ (0 : Int) = (schedPlay l).snd))) :
    Con Try.prog f_ref_SchedPlayed ref_SchedPlayed_ct := ⟨ref_SchedPlayed_ok.able, fun x hx =>
  con_eq hC (L := []) (trivial) ref_SchedPlayed_ok (ct := ref_SchedPlayed_ct) (depth := 0) (by kernel_rfl) x (H (@id ((List (Int × Int))) x) (mpr' hx (by kernel_rfl))) (by kernel_rfl)⟩

theorem law_SchedPlays_vc (hC : Cons Try.prog [(f_sched_Play, sched_Play_ct), (f_ref_SchedPlayed, ref_SchedPlayed_ct)])
    (H : ∀ (l : List (Int × Int)), (l.length ≤ 140737488351232 ∧
  ∀ (x : Int × Int),
    List.Mem x l → (IntKind.i64.min ≤ x.1 ∧ x.1 ≤ IntKind.i64.max) ∧ IntKind.i64.min ≤ x.2 ∧ x.2 ≤ IntKind.i64.max) →
  True ∧
  True ∧
    ((↑(schedPlay l).fst.length : Int) ≠ (↑(schedPlay l).fst.length : Int) ∨ (schedPlay l).snd ≠ (schedPlay l).snd →
        false = true) ∧
      (¬((↑(schedPlay l).fst.length : Int) ≠ (↑(schedPlay l).fst.length : Int) ∨
            (schedPlay l).snd ≠ (schedPlay l).snd) →
        ∃ (I : Int → Prop),
          ∃ (m : Int → Nat),
            ((schedPlay l).fst = (schedPlay l).fst ∧ (schedPlay l).fst = (schedPlay l).fst ∧ I 0) ∧
              ∀ (i : Int),
                I i →
                  (i < (↑(schedPlay l).fst.length : Int) →
                      0 ≤ i ∧
                        i < (↑(schedPlay l).fst.length : Int) ∧
                          0 ≤ i ∧
                            i < (↑(schedPlay l).fst.length : Int) ∧
                              (¬((gt (schedPlay l).fst i).fst = (gt (schedPlay l).fst i).fst ∧
                                      (gt (schedPlay l).fst i).snd.fst = (gt (schedPlay l).fst i).snd.fst ∧
                                        (gt (schedPlay l).fst i).snd.snd.fst = (gt (schedPlay l).fst i).snd.snd.fst ∧
                                          ((gt (schedPlay l).fst i).snd.snd.snd = true ↔
                                            (gt (schedPlay l).fst i).snd.snd.snd = true)) →
                                  false = true) ∧
                                (¬¬((gt (schedPlay l).fst i).fst = (gt (schedPlay l).fst i).fst ∧
                                        (gt (schedPlay l).fst i).snd.fst = (gt (schedPlay l).fst i).snd.fst ∧
                                          (gt (schedPlay l).fst i).snd.snd.fst = (gt (schedPlay l).fst i).snd.snd.fst ∧
                                            ((gt (schedPlay l).fst i).snd.snd.snd = true ↔
                                              (gt (schedPlay l).fst i).snd.snd.snd = true)) →
                                  inI64 (i + 1) ∧
                                    (schedPlay l).fst = (schedPlay l).fst ∧
                                      (schedPlay l).fst = (schedPlay l).fst ∧ I (i + 1) ∧ m (i + 1) < m i)) ∧
                    (¬i < (↑(schedPlay l).fst.length : Int) → true = true))) :
    Con Try.prog f_law_SchedPlays law_SchedPlays_ct := ⟨law_SchedPlays_ok.able, fun x hx =>
  con_eq hC (L := []) (trivial) law_SchedPlays_ok (ct := law_SchedPlays_ct) (depth := 0) (by kernel_rfl) x (H (@id ((List (Int × Int))) x) (mpr' hx (by kernel_rfl))) (by kernel_rfl)⟩

end Go.Proofs.Ytcgggoaefceokaa
