/- The typed conditions of the functions, printed by a program of the claim's author; each gives the contract of its function. Conditions: none. -/
import Derived.Test.YtgnhlecfladigaaGNames
import Derived.Test.YtgnhlecfladigaaVpA
import Derived.Test.YtgnhlecfladigaaVpB
import Derived.Test.YtgnhlecfladigaaVpC
import Derived.Test.YtgnhlecfladigaaBase
set_option linter.unusedVariables false
set_option linter.unusedSimpArgs false
set_option maxRecDepth 100000
namespace Go.Proofs.Ytgnhlecfladigaa
open Go.Vc Go.Fu

theorem law_Names_vc (hC : Cons Try.prog [])
    (H : (True) →
  ∃ (I : Int → Prop),
  ∃ (m : Int → Nat),
    ([(0 : Int), (1 : Int), (2 : Int), (3 : Int), (4 : Int), (5 : Int), (6 : Int), (7 : Int), (8 : Int), (9 : Int),
            (10 : Int)] =
          [(0 : Int), (1 : Int), (2 : Int), (3 : Int), (4 : Int), (5 : Int), (6 : Int), (7 : Int), (8 : Int), (9 : Int),
            (10 : Int)] ∧
        I (0 : Int)) ∧
      ∀ (i : Int),
        I i →
          (i < (↑(11 : Nat) : Int) →
              (0 : Int) ≤ i ∧
                i < (↑(11 : Nat) : Int) ∧
                  (gt
                          [(0 : Int), (1 : Int), (2 : Int), (3 : Int), (4 : Int), (5 : Int), (6 : Int), (7 : Int),
                            (8 : Int), (9 : Int), (10 : Int)]
                          i ≠
                        i →
                      false = true) ∧
                    (¬gt
                            [(0 : Int), (1 : Int), (2 : Int), (3 : Int), (4 : Int), (5 : Int), (6 : Int), (7 : Int),
                              (8 : Int), (9 : Int), (10 : Int)]
                            i ≠
                          i →
                      inI64 (i + (1 : Int)) ∧
                        [(0 : Int), (1 : Int), (2 : Int), (3 : Int), (4 : Int), (5 : Int), (6 : Int), (7 : Int),
                              (8 : Int), (9 : Int), (10 : Int)] =
                            [(0 : Int), (1 : Int), (2 : Int), (3 : Int), (4 : Int), (5 : Int), (6 : Int), (7 : Int),
                              (8 : Int), (9 : Int), (10 : Int)] ∧
                          I (i + (1 : Int)) ∧ m (i + (1 : Int)) < m i)) ∧
            (¬i < (↑(11 : Nat) : Int) →
              ∃ (I : Int → Prop),
                ∃ (m : Int → Nat),
                  ([(0 : Int), (1 : Int), (2 : Int), (3 : Int), (4 : Int), (5 : Int), (6 : Int), (7 : Int), (8 : Int),
                          (9 : Int), (10 : Int)] =
                        [(0 : Int), (1 : Int), (2 : Int), (3 : Int), (4 : Int), (5 : Int), (6 : Int), (7 : Int),
                          (8 : Int), (9 : Int), (10 : Int)] ∧
                      [(1 : Int), (2 : Int), (3 : Int), (4 : Int), (5 : Int), (1 : Int), (2 : Int), (3 : Int),
                            (4 : Int), (1 : Int), (2 : Int), (3 : Int), (1 : Int), (2 : Int), (1 : Int), (2 : Int),
                            (3 : Int), (4 : Int), (5 : Int), (6 : Int), (7 : Int), (8 : Int), (9 : Int)] =
                          [(1 : Int), (2 : Int), (3 : Int), (4 : Int), (5 : Int), (1 : Int), (2 : Int), (3 : Int),
                            (4 : Int), (1 : Int), (2 : Int), (3 : Int), (1 : Int), (2 : Int), (1 : Int), (2 : Int),
                            (3 : Int), (4 : Int), (5 : Int), (6 : Int), (7 : Int), (8 : Int), (9 : Int)] ∧
                        [(1 : Int), (2 : Int), (3 : Int), (4 : Int), (5 : Int), (1 : Int), (2 : Int), (3 : Int),
                              (4 : Int), (1 : Int), (2 : Int), (3 : Int), (1 : Int), (2 : Int), (1 : Int), (2 : Int),
                              (3 : Int), (4 : Int), (5 : Int), (6 : Int), (7 : Int), (8 : Int), (9 : Int)] =
                            [(1 : Int), (2 : Int), (3 : Int), (4 : Int), (5 : Int), (1 : Int), (2 : Int), (3 : Int),
                              (4 : Int), (1 : Int), (2 : Int), (3 : Int), (1 : Int), (2 : Int), (1 : Int), (2 : Int),
                              (3 : Int), (4 : Int), (5 : Int), (6 : Int), (7 : Int), (8 : Int), (9 : Int)] ∧
                          [(600 : Int), (80 : Int), (60 : Int), (60 : Int), (40 : Int), (60 : Int), (80 : Int),
                                (12 : Int), (20 : Int), (20 : Int), (60 : Int), (20 : Int), (20 : Int), (50 : Int),
                                (4 : Int), (40 : Int), (2147483647 : Int), (257 : Int)] =
                              [(600 : Int), (80 : Int), (60 : Int), (60 : Int), (40 : Int), (60 : Int), (80 : Int),
                                (12 : Int), (20 : Int), (20 : Int), (60 : Int), (20 : Int), (20 : Int), (50 : Int),
                                (4 : Int), (40 : Int), (2147483647 : Int), (257 : Int)] ∧
                            [(600 : Int), (80 : Int), (60 : Int), (60 : Int), (40 : Int), (60 : Int), (80 : Int),
                                  (12 : Int), (20 : Int), (20 : Int), (60 : Int), (20 : Int), (20 : Int), (50 : Int),
                                  (4 : Int), (40 : Int), (2147483647 : Int), (257 : Int)] =
                                [(600 : Int), (80 : Int), (60 : Int), (60 : Int), (40 : Int), (60 : Int), (80 : Int),
                                  (12 : Int), (20 : Int), (20 : Int), (60 : Int), (20 : Int), (20 : Int), (50 : Int),
                                  (4 : Int), (40 : Int), (2147483647 : Int), (257 : Int)] ∧
                              I (0 : Int)) ∧
                    ∀ (i : Int),
                      I i →
                        (i < (↑(23 : Nat) : Int) →
                            (0 : Int) ≤ i ∧
                              i < (↑(23 : Nat) : Int) ∧
                                (0 : Int) ≤ i ∧
                                  i < (↑(23 : Nat) : Int) ∧
                                    (gt
                                            [(1 : Int), (2 : Int), (3 : Int), (4 : Int), (5 : Int), (1 : Int),
                                              (2 : Int), (3 : Int), (4 : Int), (1 : Int), (2 : Int), (3 : Int),
                                              (1 : Int), (2 : Int), (1 : Int), (2 : Int), (3 : Int), (4 : Int),
                                              (5 : Int), (6 : Int), (7 : Int), (8 : Int), (9 : Int)]
                                            i ≠
                                          gt
                                            [(1 : Int), (2 : Int), (3 : Int), (4 : Int), (5 : Int), (1 : Int),
                                              (2 : Int), (3 : Int), (4 : Int), (1 : Int), (2 : Int), (3 : Int),
                                              (1 : Int), (2 : Int), (1 : Int), (2 : Int), (3 : Int), (4 : Int),
                                              (5 : Int), (6 : Int), (7 : Int), (8 : Int), (9 : Int)]
                                            i →
                                        false = true) ∧
                                      (¬gt
                                              [(1 : Int), (2 : Int), (3 : Int), (4 : Int), (5 : Int), (1 : Int),
                                                (2 : Int), (3 : Int), (4 : Int), (1 : Int), (2 : Int), (3 : Int),
                                                (1 : Int), (2 : Int), (1 : Int), (2 : Int), (3 : Int), (4 : Int),
                                                (5 : Int), (6 : Int), (7 : Int), (8 : Int), (9 : Int)]
                                              i ≠
                                            gt
                                              [(1 : Int), (2 : Int), (3 : Int), (4 : Int), (5 : Int), (1 : Int),
                                                (2 : Int), (3 : Int), (4 : Int), (1 : Int), (2 : Int), (3 : Int),
                                                (1 : Int), (2 : Int), (1 : Int), (2 : Int), (3 : Int), (4 : Int),
                                                (5 : Int), (6 : Int), (7 : Int), (8 : Int), (9 : Int)]
                                              i →
                                        inI64 (i + (1 : Int)) ∧
                                          [(0 : Int), (1 : Int), (2 : Int), (3 : Int), (4 : Int), (5 : Int), (6 : Int),
                                                (7 : Int), (8 : Int), (9 : Int), (10 : Int)] =
                                              [(0 : Int), (1 : Int), (2 : Int), (3 : Int), (4 : Int), (5 : Int),
                                                (6 : Int), (7 : Int), (8 : Int), (9 : Int), (10 : Int)] ∧
                                            [(1 : Int), (2 : Int), (3 : Int), (4 : Int), (5 : Int), (1 : Int),
                                                  (2 : Int), (3 : Int), (4 : Int), (1 : Int), (2 : Int), (3 : Int),
                                                  (1 : Int), (2 : Int), (1 : Int), (2 : Int), (3 : Int), (4 : Int),
                                                  (5 : Int), (6 : Int), (7 : Int), (8 : Int), (9 : Int)] =
                                                [(1 : Int), (2 : Int), (3 : Int), (4 : Int), (5 : Int), (1 : Int),
                                                  (2 : Int), (3 : Int), (4 : Int), (1 : Int), (2 : Int), (3 : Int),
                                                  (1 : Int), (2 : Int), (1 : Int), (2 : Int), (3 : Int), (4 : Int),
                                                  (5 : Int), (6 : Int), (7 : Int), (8 : Int), (9 : Int)] ∧
                                              [(1 : Int), (2 : Int), (3 : Int), (4 : Int), (5 : Int), (1 : Int),
                                                    (2 : Int), (3 : Int), (4 : Int), (1 : Int), (2 : Int), (3 : Int),
                                                    (1 : Int), (2 : Int), (1 : Int), (2 : Int), (3 : Int), (4 : Int),
                                                    (5 : Int), (6 : Int), (7 : Int), (8 : Int), (9 : Int)] =
                                                  [(1 : Int), (2 : Int), (3 : Int), (4 : Int), (5 : Int), (1 : Int),
                                                    (2 : Int), (3 : Int), (4 : Int), (1 : Int), (2 : Int), (3 : Int),
                                                    (1 : Int), (2 : Int), (1 : Int), (2 : Int), (3 : Int), (4 : Int),
                                                    (5 : Int), (6 : Int), (7 : Int), (8 : Int), (9 : Int)] ∧
                                                [(600 : Int), (80 : Int), (60 : Int), (60 : Int), (40 : Int),
                                                      (60 : Int), (80 : Int), (12 : Int), (20 : Int), (20 : Int),
                                                      (60 : Int), (20 : Int), (20 : Int), (50 : Int), (4 : Int),
                                                      (40 : Int), (2147483647 : Int), (257 : Int)] =
                                                    [(600 : Int), (80 : Int), (60 : Int), (60 : Int), (40 : Int),
                                                      (60 : Int), (80 : Int), (12 : Int), (20 : Int), (20 : Int),
                                                      (60 : Int), (20 : Int), (20 : Int), (50 : Int), (4 : Int),
                                                      (40 : Int), (2147483647 : Int), (257 : Int)] ∧
                                                  [(600 : Int), (80 : Int), (60 : Int), (60 : Int), (40 : Int),
                                                        (60 : Int), (80 : Int), (12 : Int), (20 : Int), (20 : Int),
                                                        (60 : Int), (20 : Int), (20 : Int), (50 : Int), (4 : Int),
                                                        (40 : Int), (2147483647 : Int), (257 : Int)] =
                                                      [(600 : Int), (80 : Int), (60 : Int), (60 : Int), (40 : Int),
                                                        (60 : Int), (80 : Int), (12 : Int), (20 : Int), (20 : Int),
                                                        (60 : Int), (20 : Int), (20 : Int), (50 : Int), (4 : Int),
                                                        (40 : Int), (2147483647 : Int), (257 : Int)] ∧
                                                    I (i + (1 : Int)) ∧ m (i + (1 : Int)) < m i)) ∧
                          (¬i < (↑(23 : Nat) : Int) →
                            ∃ (I : Int → Prop),
                              ∃ (m : Int → Nat),
                                ([(0 : Int), (1 : Int), (2 : Int), (3 : Int), (4 : Int), (5 : Int), (6 : Int),
                                        (7 : Int), (8 : Int), (9 : Int), (10 : Int)] =
                                      [(0 : Int), (1 : Int), (2 : Int), (3 : Int), (4 : Int), (5 : Int), (6 : Int),
                                        (7 : Int), (8 : Int), (9 : Int), (10 : Int)] ∧
                                    [(1 : Int), (2 : Int), (3 : Int), (4 : Int), (5 : Int), (1 : Int), (2 : Int),
                                          (3 : Int), (4 : Int), (1 : Int), (2 : Int), (3 : Int), (1 : Int), (2 : Int),
                                          (1 : Int), (2 : Int), (3 : Int), (4 : Int), (5 : Int), (6 : Int), (7 : Int),
                                          (8 : Int), (9 : Int)] =
                                        [(1 : Int), (2 : Int), (3 : Int), (4 : Int), (5 : Int), (1 : Int), (2 : Int),
                                          (3 : Int), (4 : Int), (1 : Int), (2 : Int), (3 : Int), (1 : Int), (2 : Int),
                                          (1 : Int), (2 : Int), (3 : Int), (4 : Int), (5 : Int), (6 : Int), (7 : Int),
                                          (8 : Int), (9 : Int)] ∧
                                      [(1 : Int), (2 : Int), (3 : Int), (4 : Int), (5 : Int), (1 : Int), (2 : Int),
                                            (3 : Int), (4 : Int), (1 : Int), (2 : Int), (3 : Int), (1 : Int), (2 : Int),
                                            (1 : Int), (2 : Int), (3 : Int), (4 : Int), (5 : Int), (6 : Int), (7 : Int),
                                            (8 : Int), (9 : Int)] =
                                          [(1 : Int), (2 : Int), (3 : Int), (4 : Int), (5 : Int), (1 : Int), (2 : Int),
                                            (3 : Int), (4 : Int), (1 : Int), (2 : Int), (3 : Int), (1 : Int), (2 : Int),
                                            (1 : Int), (2 : Int), (3 : Int), (4 : Int), (5 : Int), (6 : Int), (7 : Int),
                                            (8 : Int), (9 : Int)] ∧
                                        [(600 : Int), (80 : Int), (60 : Int), (60 : Int), (40 : Int), (60 : Int),
                                              (80 : Int), (12 : Int), (20 : Int), (20 : Int), (60 : Int), (20 : Int),
                                              (20 : Int), (50 : Int), (4 : Int), (40 : Int), (2147483647 : Int),
                                              (257 : Int)] =
                                            [(600 : Int), (80 : Int), (60 : Int), (60 : Int), (40 : Int), (60 : Int),
                                              (80 : Int), (12 : Int), (20 : Int), (20 : Int), (60 : Int), (20 : Int),
                                              (20 : Int), (50 : Int), (4 : Int), (40 : Int), (2147483647 : Int),
                                              (257 : Int)] ∧
                                          [(600 : Int), (80 : Int), (60 : Int), (60 : Int), (40 : Int), (60 : Int),
                                                (80 : Int), (12 : Int), (20 : Int), (20 : Int), (60 : Int), (20 : Int),
                                                (20 : Int), (50 : Int), (4 : Int), (40 : Int), (2147483647 : Int),
                                                (257 : Int)] =
                                              [(600 : Int), (80 : Int), (60 : Int), (60 : Int), (40 : Int), (60 : Int),
                                                (80 : Int), (12 : Int), (20 : Int), (20 : Int), (60 : Int), (20 : Int),
                                                (20 : Int), (50 : Int), (4 : Int), (40 : Int), (2147483647 : Int),
                                                (257 : Int)] ∧
                                            I (0 : Int)) ∧
                                  ∀ (i : Int),
                                    I i →
                                      (i < (↑(18 : Nat) : Int) →
                                          (0 : Int) ≤ i ∧
                                            i < (↑(18 : Nat) : Int) ∧
                                              (0 : Int) ≤ i ∧
                                                i < (↑(18 : Nat) : Int) ∧
                                                  (gt
                                                          [(600 : Int), (80 : Int), (60 : Int), (60 : Int), (40 : Int),
                                                            (60 : Int), (80 : Int), (12 : Int), (20 : Int), (20 : Int),
                                                            (60 : Int), (20 : Int), (20 : Int), (50 : Int), (4 : Int),
                                                            (40 : Int), (2147483647 : Int), (257 : Int)]
                                                          i ≠
                                                        gt
                                                          [(600 : Int), (80 : Int), (60 : Int), (60 : Int), (40 : Int),
                                                            (60 : Int), (80 : Int), (12 : Int), (20 : Int), (20 : Int),
                                                            (60 : Int), (20 : Int), (20 : Int), (50 : Int), (4 : Int),
                                                            (40 : Int), (2147483647 : Int), (257 : Int)]
                                                          i →
                                                      false = true) ∧
                                                    (¬gt
                                                            [(600 : Int), (80 : Int), (60 : Int), (60 : Int),
                                                              (40 : Int), (60 : Int), (80 : Int), (12 : Int),
                                                              (20 : Int), (20 : Int), (60 : Int), (20 : Int),
                                                              (20 : Int), (50 : Int), (4 : Int), (40 : Int),
                                                              (2147483647 : Int), (257 : Int)]
                                                            i ≠
                                                          gt
                                                            [(600 : Int), (80 : Int), (60 : Int), (60 : Int),
                                                              (40 : Int), (60 : Int), (80 : Int), (12 : Int),
                                                              (20 : Int), (20 : Int), (60 : Int), (20 : Int),
                                                              (20 : Int), (50 : Int), (4 : Int), (40 : Int),
                                                              (2147483647 : Int), (257 : Int)]
                                                            i →
                                                      inI64 (i + (1 : Int)) ∧
                                                        [(0 : Int), (1 : Int), (2 : Int), (3 : Int), (4 : Int),
                                                              (5 : Int), (6 : Int), (7 : Int), (8 : Int), (9 : Int),
                                                              (10 : Int)] =
                                                            [(0 : Int), (1 : Int), (2 : Int), (3 : Int), (4 : Int),
                                                              (5 : Int), (6 : Int), (7 : Int), (8 : Int), (9 : Int),
                                                              (10 : Int)] ∧
                                                          [(1 : Int), (2 : Int), (3 : Int), (4 : Int), (5 : Int),
                                                                (1 : Int), (2 : Int), (3 : Int), (4 : Int), (1 : Int),
                                                                (2 : Int), (3 : Int), (1 : Int), (2 : Int), (1 : Int),
                                                                (2 : Int), (3 : Int), (4 : Int), (5 : Int), (6 : Int),
                                                                (7 : Int), (8 : Int), (9 : Int)] =
                                                              [(1 : Int), (2 : Int), (3 : Int), (4 : Int), (5 : Int),
                                                                (1 : Int), (2 : Int), (3 : Int), (4 : Int), (1 : Int),
                                                                (2 : Int), (3 : Int), (1 : Int), (2 : Int), (1 : Int),
                                                                (2 : Int), (3 : Int), (4 : Int), (5 : Int), (6 : Int),
                                                                (7 : Int), (8 : Int), (9 : Int)] ∧
                                                            [(1 : Int), (2 : Int), (3 : Int), (4 : Int), (5 : Int),
                                                                  (1 : Int), (2 : Int), (3 : Int), (4 : Int), (1 : Int),
                                                                  (2 : Int), (3 : Int), (1 : Int), (2 : Int), (1 : Int),
                                                                  (2 : Int), (3 : Int), (4 : Int), (5 : Int), (6 : Int),
                                                                  (7 : Int), (8 : Int), (9 : Int)] =
                                                                [(1 : Int), (2 : Int), (3 : Int), (4 : Int), (5 : Int),
                                                                  (1 : Int), (2 : Int), (3 : Int), (4 : Int), (1 : Int),
                                                                  (2 : Int), (3 : Int), (1 : Int), (2 : Int), (1 : Int),
                                                                  (2 : Int), (3 : Int), (4 : Int), (5 : Int), (6 : Int),
                                                                  (7 : Int), (8 : Int), (9 : Int)] ∧
                                                              [(600 : Int), (80 : Int), (60 : Int), (60 : Int),
                                                                    (40 : Int), (60 : Int), (80 : Int), (12 : Int),
                                                                    (20 : Int), (20 : Int), (60 : Int), (20 : Int),
                                                                    (20 : Int), (50 : Int), (4 : Int), (40 : Int),
                                                                    (2147483647 : Int), (257 : Int)] =
                                                                  [(600 : Int), (80 : Int), (60 : Int), (60 : Int),
                                                                    (40 : Int), (60 : Int), (80 : Int), (12 : Int),
                                                                    (20 : Int), (20 : Int), (60 : Int), (20 : Int),
                                                                    (20 : Int), (50 : Int), (4 : Int), (40 : Int),
                                                                    (2147483647 : Int), (257 : Int)] ∧
                                                                [(600 : Int), (80 : Int), (60 : Int), (60 : Int),
                                                                      (40 : Int), (60 : Int), (80 : Int), (12 : Int),
                                                                      (20 : Int), (20 : Int), (60 : Int), (20 : Int),
                                                                      (20 : Int), (50 : Int), (4 : Int), (40 : Int),
                                                                      (2147483647 : Int), (257 : Int)] =
                                                                    [(600 : Int), (80 : Int), (60 : Int), (60 : Int),
                                                                      (40 : Int), (60 : Int), (80 : Int), (12 : Int),
                                                                      (20 : Int), (20 : Int), (60 : Int), (20 : Int),
                                                                      (20 : Int), (50 : Int), (4 : Int), (40 : Int),
                                                                      (2147483647 : Int), (257 : Int)] ∧
                                                                  I (i + (1 : Int)) ∧ m (i + (1 : Int)) < m i)) ∧
                                        (¬i < (↑(18 : Nat) : Int) →
                                          bo
                                              ((↑(23 : Nat) : Int) = (↑(23 : Nat) : Int) ∧
                                                (↑(18 : Nat) : Int) = (↑(18 : Nat) : Int)) =
                                            true)))) :
    Con Try.prog f_law_Names law_Names_ct := fun x hx =>
  con_eq hC (L := []) (trivial) law_Names_ok (ct := law_Names_ct) (depth := 0) (by kernel_rfl) x (H  (mpr' hx (by kernel_rfl))) (by kernel_rfl)

end Go.Proofs.Ytgnhlecfladigaa
