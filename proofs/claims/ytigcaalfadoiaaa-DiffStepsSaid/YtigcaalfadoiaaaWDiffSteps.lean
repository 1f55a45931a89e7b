/- The typed conditions of the functions, printed by a program of the claim's author; each gives the contract of its function. Conditions: none. -/
import Derived.Test.YtigcaalfadoiaaaGDiffSteps
import Derived.Test.YtigcaalfadoiaaaVpA
import Derived.Test.YtigcaalfadoiaaaVpB
import Derived.Test.YtigcaalfadoiaaaVpC
import Derived.Test.YtigcaalfadoiaaaVpE
import Derived.Test.YtigcaalfadoiaaaVpT
import Derived.Test.YtigcaalfadoiaaaBase
set_option linter.unusedVariables false
set_option linter.unusedSimpArgs false
set_option maxRecDepth 100000
namespace Go.Proofs.Ytigcaalfadoiaaa
open Go.Vc Go.Fu

theorem diff_fault_vc (hC : Cons Try.prog [])
    (H : ∀ (ls : List (List (List UInt8))), (lsPre ls) →
  ∃ (I : Int → Prop),
  ∃ (m : Int → Nat),
    I (0 : Int) ∧
      ∀ (x : Int),
        I x →
          (x < (↑ls.length : Int) →
              (0 : Int) ≤ x ∧
                x < (↑ls.length : Int) ∧
                  (¬(80 : Int) < (↑(gt ls x).length : Int) →
                      ∃ (I_1 : Int → Prop),
                        ∃ (m_1 : Int → Nat),
                          I_1 (0 : Int) ∧
                            ∀ (x_1 : Int),
                              I_1 x_1 →
                                (x_1 < (↑(gt ls x).length : Int) →
                                    (0 : Int) ≤ x_1 ∧
                                      x_1 < (↑(gt ls x).length : Int) ∧
                                        ((600 : Int) < (↑(gt (gt ls x) x_1).length : Int) →
                                            ((80 : Int) < (↑(gt ls x).length : Int) ∨ (0 : Int) ≤ x_1 →
                                                (1 : Int) = linesFault ls) ∧
                                              (¬((80 : Int) < (↑(gt ls x).length : Int) ∨ (0 : Int) ≤ x_1) →
                                                inI64 (x + (1 : Int)) ∧ I (x + (1 : Int)) ∧ m (x + (1 : Int)) < m x)) ∧
                                          (¬(600 : Int) < (↑(gt (gt ls x) x_1).length : Int) →
                                            inI64 (x_1 + (1 : Int)) ∧
                                              I_1 (x_1 + (1 : Int)) ∧ m_1 (x_1 + (1 : Int)) < m_1 x_1)) ∧
                                  (¬x_1 < (↑(gt ls x).length : Int) →
                                    ((80 : Int) < (↑(gt ls x).length : Int) ∨ (0 : Int) ≤ (-1 : Int) →
                                        (1 : Int) = linesFault ls) ∧
                                      (¬((80 : Int) < (↑(gt ls x).length : Int) ∨ (0 : Int) ≤ (-1 : Int)) →
                                        inI64 (x + (1 : Int)) ∧ I (x + (1 : Int)) ∧ m (x + (1 : Int)) < m x))) ∧
                    (¬¬(80 : Int) < (↑(gt ls x).length : Int) →
                      ((80 : Int) < (↑(gt ls x).length : Int) → (1 : Int) = linesFault ls) ∧
                        (¬(80 : Int) < (↑(gt ls x).length : Int) →
                          inI64 (x + (1 : Int)) ∧ I (x + (1 : Int)) ∧ m (x + (1 : Int)) < m x))) ∧
            (¬x < (↑ls.length : Int) → (0 : Int) = linesFault ls)) :
    Con Try.prog f_diff_fault diff_fault_ct := ⟨diff_fault_ok.able, fun x hx =>
  con_eq hC (L := [(f_slices_ContainsFunc___string_string_, slices_ContainsFunc___string_string__fi), (f_slices_IndexFunc___string_string_, slices_IndexFunc___string_string__fi), (f_diff_fault_1, diff_fault_1_fi)]) (⟨slices_ContainsFunc___string_string__ok, slices_IndexFunc___string_string__ok, diff_fault_1_ok, trivial⟩) diff_fault_ok (ct := diff_fault_ct) (depth := 4) (by kernel_rfl) x (H (@id (List (List (List UInt8))) x) (mpr' hx (by kernel_rfl))) (by kernel_rfl)⟩

theorem diff_Way_vc (hC : Cons Try.prog [])
    (H : ∀ (a : List (List UInt8)) (b : List (List UInt8)), (linesPre a ∧ linesPre b) →
  inI64 ((↑a.length : Int) + 1) ∧
  (↑a.length : Int) + 1 = (↑a.length : Int) + 1 ∧
    0 ≤ (↑a.length : Int) + 1 ∧
      24 * ((↑a.length : Int) + 1).toNat ≤ 140737488355328 ∧
        ∃ (I : Int → List (List Int) → Prop),
          ∃ (m : Int → List (List Int) → Nat),
            I (↑a.length : Int) (List.replicate ((↑a.length : Int) + 1).toNat (noRow Int)) ∧
              ∀ (i : Int) (out : List (List Int)),
                I i out →
                  (0 ≤ i →
                      inI64 ((↑b.length : Int) + 1) ∧
                        (↑b.length : Int) + 1 = (↑b.length : Int) + 1 ∧
                          0 ≤ (↑b.length : Int) + 1 ∧
                            8 * ((↑b.length : Int) + 1).toNat ≤ 140737488355328 ∧
                              0 ≤ i ∧
                                i < (↑out.length : Int) ∧
                                  ∃ (I_1 : Int → List (List Int) → Prop),
                                    ∃ (m_1 : Int → List (List Int) → Nat),
                                      I_1 (↑b.length : Int)
                                          (out.set i.toNat (List.replicate ((↑b.length : Int) + 1).toNat 0)) ∧
                                        ∀ (k : Int) (out_1 : List (List Int)),
                                          I_1 k out_1 →
                                            (0 ≤ k →
                                                (i = (↑a.length : Int) →
                                                    0 ≤ i ∧
                                                      i < (↑out_1.length : Int) ∧
                                                        inI64 ((↑b.length : Int) - k) ∧
                                                          0 ≤ k ∧
                                                            k < (↑(gt out_1 i).length : Int) ∧
                                                              inI64 (k - 1) ∧
                                                                I_1 (k - 1)
                                                                    (out_1.set i.toNat
                                                                      ((gt out_1 i).set k.toNat
                                                                        ((↑b.length : Int) - k))) ∧
                                                                  m_1 (k - 1)
                                                                      (out_1.set i.toNat
                                                                        ((gt out_1 i).set k.toNat
                                                                          ((↑b.length : Int) - k))) <
                                                                    m_1 k out_1) ∧
                                                  (¬i = (↑a.length : Int) →
                                                    (k = (↑b.length : Int) →
                                                        0 ≤ i ∧
                                                          i < (↑out_1.length : Int) ∧
                                                            inI64 ((↑a.length : Int) - i) ∧
                                                              0 ≤ k ∧
                                                                k < (↑(gt out_1 i).length : Int) ∧
                                                                  inI64 (k - 1) ∧
                                                                    I_1 (k - 1)
                                                                        (out_1.set i.toNat
                                                                          ((gt out_1 i).set k.toNat
                                                                            ((↑a.length : Int) - i))) ∧
                                                                      m_1 (k - 1)
                                                                          (out_1.set i.toNat
                                                                            ((gt out_1 i).set k.toNat
                                                                              ((↑a.length : Int) - i))) <
                                                                        m_1 k out_1) ∧
                                                      (¬k = (↑b.length : Int) →
                                                        0 ≤ i ∧
                                                          i < (↑a.length : Int) ∧
                                                            0 ≤ k ∧
                                                              k < (↑b.length : Int) ∧
                                                                (gt a i = gt b k →
                                                                    0 ≤ i ∧
                                                                      i < (↑out_1.length : Int) ∧
                                                                        inI64 (i + 1) ∧
                                                                          0 ≤ i + 1 ∧
                                                                            i + 1 < (↑out_1.length : Int) ∧
                                                                              inI64 (k + 1) ∧
                                                                                0 ≤ k + 1 ∧
                                                                                  k + 1 <
                                                                                      (↑(gt out_1 (i + 1)).length :
                                                                                        Int) ∧
                                                                                    0 ≤ k ∧
                                                                                      k < (↑(gt out_1 i).length : Int) ∧
                                                                                        inI64 (k - 1) ∧
                                                                                          I_1 (k - 1)
                                                                                              (out_1.set i.toNat
                                                                                                ((gt out_1 i).set
                                                                                                  k.toNat
                                                                                                  (gt (gt out_1 (i + 1))
                                                                                                    (k + 1)))) ∧
                                                                                            m_1 (k - 1)
                                                                                                (out_1.set i.toNat
                                                                                                  ((gt out_1 i).set
                                                                                                    k.toNat
                                                                                                    (gt
                                                                                                      (gt out_1 (i + 1))
                                                                                                      (k + 1)))) <
                                                                                              m_1 k out_1) ∧
                                                                  (¬gt a i = gt b k →
                                                                    0 ≤ i ∧
                                                                      i < (↑out_1.length : Int) ∧
                                                                        inI64 (i + 1) ∧
                                                                          0 ≤ i + 1 ∧
                                                                            i + 1 < (↑out_1.length : Int) ∧
                                                                              0 ≤ k ∧
                                                                                k < (↑(gt out_1 (i + 1)).length : Int) ∧
                                                                                  0 ≤ i ∧
                                                                                    i < (↑out_1.length : Int) ∧
                                                                                      inI64 (k + 1) ∧
                                                                                        0 ≤ k + 1 ∧
                                                                                          k + 1 <
                                                                                              (↑(gt out_1 i).length :
                                                                                                Int) ∧
                                                                                            inI64
                                                                                                (1 +
                                                                                                  min
                                                                                                    (gt
                                                                                                      (gt out_1 (i + 1))
                                                                                                      k)
                                                                                                    (gt (gt out_1 i)
                                                                                                      (k + 1))) ∧
                                                                                              0 ≤ k ∧
                                                                                                k <
                                                                                                    (↑(gt out_1
                                                                                                            i).length :
                                                                                                      Int) ∧
                                                                                                  inI64 (k - 1) ∧
                                                                                                    I_1 (k - 1)
                                                                                                        (out_1.set
                                                                                                          i.toNat
                                                                                                          ((gt out_1
                                                                                                                i).set
                                                                                                            k.toNat
                                                                                                            (1 +
                                                                                                              min
                                                                                                                (gt
                                                                                                                  (gt
                                                                                                                    out_1
                                                                                                                    (i +
                                                                                                                      1))
                                                                                                                  k)
                                                                                                                (gt
                                                                                                                  (gt
                                                                                                                    out_1
                                                                                                                    i)
                                                                                                                  (k +
                                                                                                                    1))))) ∧
                                                                                                      m_1 (k - 1)
                                                                                                          (out_1.set
                                                                                                            i.toNat
                                                                                                            ((gt out_1
                                                                                                                  i).set
                                                                                                              k.toNat
                                                                                                              (1 +
                                                                                                                min
                                                                                                                  (gt
                                                                                                                    (gt
                                                                                                                      out_1
                                                                                                                      (i +
                                                                                                                        1))
                                                                                                                    k)
                                                                                                                  (gt
                                                                                                                    (gt
                                                                                                                      out_1
                                                                                                                      i)
                                                                                                                    (k +
                                                                                                                      1))))) <
                                                                                                        m_1 k
                                                                                                          out_1)))) ∧
                                              (¬0 ≤ k → inI64 (i - 1) ∧ I (i - 1) out_1 ∧ m (i - 1) out_1 < m i out)) ∧
                    (¬0 ≤ i →
                      ∃ (I : Int → Int → List (Int × Int) → Prop),
                        ∃ (m : Int → Int → List (Int × Int) → Nat),
                          (out = out ∧ I 0 0 []) ∧
                            ∀ (i k : Int) (out_1 : List (Int × Int)),
                              I i k out_1 →
                                (i < (↑a.length : Int) ∨ k < (↑b.length : Int) →
                                    (i < (↑a.length : Int) ∧ k < (↑b.length : Int) → 0 ≤ i) ∧
                                      (i < (↑a.length : Int) ∧ k < (↑b.length : Int) → i < (↑a.length : Int)) ∧
                                        (i < (↑a.length : Int) ∧ k < (↑b.length : Int) → 0 ≤ k) ∧
                                          (i < (↑a.length : Int) ∧ k < (↑b.length : Int) → k < (↑b.length : Int)) ∧
                                            ((i < (↑a.length : Int) ∧ k < (↑b.length : Int)) ∧ gt a i = gt b k →
                                                (0 < (↑out_1.length : Int) → inI64 ((↑out_1.length : Int) - 1)) ∧
                                                  (0 < (↑out_1.length : Int) → 0 ≤ (↑out_1.length : Int) - 1) ∧
                                                    (0 < (↑out_1.length : Int) →
                                                        (↑out_1.length : Int) - 1 < (↑out_1.length : Int)) ∧
                                                      (0 < (↑out_1.length : Int) ∧
                                                            (gt out_1 ((↑out_1.length : Int) - 1)).fst = 1 →
                                                          inI64 ((↑out_1.length : Int) - 1) ∧
                                                            0 ≤ (↑out_1.length : Int) - 1 ∧
                                                              (↑out_1.length : Int) - 1 < (↑out_1.length : Int) ∧
                                                                inI64 ((gt out_1 ((↑out_1.length : Int) - 1)).snd + 1) ∧
                                                                  0 ≤ (↑out_1.length : Int) - 1 ∧
                                                                    (↑out_1.length : Int) - 1 < (↑out_1.length : Int) ∧
                                                                      inI64 (i + 1) ∧
                                                                        inI64 (k + 1) ∧
                                                                          out = out ∧
                                                                            I (i + 1) (k + 1)
                                                                                (out_1.set
                                                                                  ((↑out_1.length : Int) - 1).toNat
                                                                                  ((gt out_1
                                                                                        ((↑out_1.length : Int) -
                                                                                          1)).fst,
                                                                                    (gt out_1
                                                                                          ((↑out_1.length : Int) -
                                                                                            1)).snd +
                                                                                      1)) ∧
                                                                              m (i + 1) (k + 1)
                                                                                  (out_1.set
                                                                                    ((↑out_1.length : Int) - 1).toNat
                                                                                    ((gt out_1
                                                                                          ((↑out_1.length : Int) -
                                                                                            1)).fst,
                                                                                      (gt out_1
                                                                                            ((↑out_1.length : Int) -
                                                                                              1)).snd +
                                                                                        1)) <
                                                                                m i k out_1) ∧
                                                        (¬(0 < (↑out_1.length : Int) ∧
                                                              (gt out_1 ((↑out_1.length : Int) - 1)).fst = 1) →
                                                          (out_1.length + 1) * 16 ≤ 140737488355328 ∧
                                                            inI64 (i + 1) ∧
                                                              inI64 (k + 1) ∧
                                                                out = out ∧
                                                                  I (i + 1) (k + 1) (out_1 ++ [(1, 1)]) ∧
                                                                    m (i + 1) (k + 1) (out_1 ++ [(1, 1)]) <
                                                                      m i k out_1)) ∧
                                              (¬((i < (↑a.length : Int) ∧ k < (↑b.length : Int)) ∧ gt a i = gt b k) →
                                                (i < (↑a.length : Int) → inI64 (i + 1)) ∧
                                                  (i < (↑a.length : Int) → 0 ≤ i + 1) ∧
                                                    (i < (↑a.length : Int) → i + 1 < (↑out.length : Int)) ∧
                                                      (i < (↑a.length : Int) → 0 ≤ k) ∧
                                                        (i < (↑a.length : Int) → k < (↑(gt out (i + 1)).length : Int)) ∧
                                                          (i < (↑a.length : Int) → inI64 (gt (gt out (i + 1)) k + 1)) ∧
                                                            (i < (↑a.length : Int) → 0 ≤ i) ∧
                                                              (i < (↑a.length : Int) → i < (↑out.length : Int)) ∧
                                                                (i < (↑a.length : Int) → 0 ≤ k) ∧
                                                                  (i < (↑a.length : Int) →
                                                                      k < (↑(gt out i).length : Int)) ∧
                                                                    (i < (↑a.length : Int) ∧
                                                                          gt (gt out (i + 1)) k + 1 = gt (gt out i) k →
                                                                        (0 < (↑out_1.length : Int) →
                                                                            inI64 ((↑out_1.length : Int) - 1)) ∧
                                                                          (0 < (↑out_1.length : Int) →
                                                                              0 ≤ (↑out_1.length : Int) - 1) ∧
                                                                            (0 < (↑out_1.length : Int) →
                                                                                (↑out_1.length : Int) - 1 <
                                                                                  (↑out_1.length : Int)) ∧
                                                                              (0 < (↑out_1.length : Int) ∧
                                                                                    (gt out_1
                                                                                          ((↑out_1.length : Int) -
                                                                                            1)).fst =
                                                                                      2 →
                                                                                  inI64 ((↑out_1.length : Int) - 1) ∧
                                                                                    0 ≤ (↑out_1.length : Int) - 1 ∧
                                                                                      (↑out_1.length : Int) - 1 <
                                                                                          (↑out_1.length : Int) ∧
                                                                                        inI64
                                                                                            ((gt out_1
                                                                                                  ((↑out_1.length :
                                                                                                      Int) -
                                                                                                    1)).snd +
                                                                                              1) ∧
                                                                                          0 ≤
                                                                                              (↑out_1.length : Int) -
                                                                                                1 ∧
                                                                                            (↑out_1.length : Int) - 1 <
                                                                                                (↑out_1.length : Int) ∧
                                                                                              inI64 (i + 1) ∧
                                                                                                out = out ∧
                                                                                                  I (i + 1) k
                                                                                                      (out_1.set
                                                                                                        ((↑out_1.length :
                                                                                                              Int) -
                                                                                                            1).toNat
                                                                                                        ((gt out_1
                                                                                                              ((↑out_1.length :
                                                                                                                  Int) -
                                                                                                                1)).fst,
                                                                                                          (gt out_1
                                                                                                                ((↑out_1.length :
                                                                                                                    Int) -
                                                                                                                  1)).snd +
                                                                                                            1)) ∧
                                                                                                    m (i + 1) k
                                                                                                        (out_1.set
                                                                                                          ((↑out_1.length :
                                                                                                                Int) -
                                                                                                              1).toNat
                                                                                                          ((gt out_1
                                                                                                                ((↑out_1.length :
                                                                                                                    Int) -
                                                                                                                  1)).fst,
                                                                                                            (gt out_1
                                                                                                                  ((↑out_1.length :
                                                                                                                      Int) -
                                                                                                                    1)).snd +
                                                                                                              1)) <
                                                                                                      m i k out_1) ∧
                                                                                (¬(0 < (↑out_1.length : Int) ∧
                                                                                      (gt out_1
                                                                                            ((↑out_1.length : Int) -
                                                                                              1)).fst =
                                                                                        2) →
                                                                                  (out_1.length + 1) * 16 ≤
                                                                                      140737488355328 ∧
                                                                                    inI64 (i + 1) ∧
                                                                                      out = out ∧
                                                                                        I (i + 1) k
                                                                                            (out_1 ++ [(2, 1)]) ∧
                                                                                          m (i + 1) k
                                                                                              (out_1 ++ [(2, 1)]) <
                                                                                            m i k out_1)) ∧
                                                                      (¬(i < (↑a.length : Int) ∧
                                                                            gt (gt out (i + 1)) k + 1 =
                                                                              gt (gt out i) k) →
                                                                        (0 < (↑out_1.length : Int) →
                                                                            inI64 ((↑out_1.length : Int) - 1)) ∧
                                                                          (0 < (↑out_1.length : Int) →
                                                                              0 ≤ (↑out_1.length : Int) - 1) ∧
                                                                            (0 < (↑out_1.length : Int) →
                                                                                (↑out_1.length : Int) - 1 <
                                                                                  (↑out_1.length : Int)) ∧
                                                                              (0 < (↑out_1.length : Int) ∧
                                                                                    (gt out_1
                                                                                          ((↑out_1.length : Int) -
                                                                                            1)).fst =
                                                                                      3 →
                                                                                  inI64 ((↑out_1.length : Int) - 1) ∧
                                                                                    0 ≤ (↑out_1.length : Int) - 1 ∧
                                                                                      (↑out_1.length : Int) - 1 <
                                                                                          (↑out_1.length : Int) ∧
                                                                                        inI64
                                                                                            ((gt out_1
                                                                                                  ((↑out_1.length :
                                                                                                      Int) -
                                                                                                    1)).snd +
                                                                                              1) ∧
                                                                                          0 ≤
                                                                                              (↑out_1.length : Int) -
                                                                                                1 ∧
                                                                                            (↑out_1.length : Int) - 1 <
                                                                                                (↑out_1.length : Int) ∧
                                                                                              inI64 (k + 1) ∧
                                                                                                out = out ∧
                                                                                                  I i (k + 1)
                                                                                                      (out_1.set
                                                                                                        ((↑out_1.length :
                                                                                                              Int) -
                                                                                                            1).toNat
                                                                                                        ((gt out_1
                                                                                                              ((↑out_1.length :
                                                                                                                  Int) -
                                                                                                                1)).fst,
                                                                                                          (gt out_1
                                                                                                                ((↑out_1.length :
                                                                                                                    Int) -
                                                                                                                  1)).snd +
                                                                                                            1)) ∧
                                                                                                    m i (k + 1)
                                                                                                        (out_1.set
                                                                                                          ((↑out_1.length :
                                                                                                                Int) -
                                                                                                              1).toNat
                                                                                                          ((gt out_1
                                                                                                                ((↑out_1.length :
                                                                                                                    Int) -
                                                                                                                  1)).fst,
                                                                                                            (gt out_1
                                                                                                                  ((↑out_1.length :
                                                                                                                      Int) -
                                                                                                                    1)).snd +
                                                                                                              1)) <
                                                                                                      m i k out_1) ∧
                                                                                (¬(0 < (↑out_1.length : Int) ∧
                                                                                      (gt out_1
                                                                                            ((↑out_1.length : Int) -
                                                                                              1)).fst =
                                                                                        3) →
                                                                                  (out_1.length + 1) * 16 ≤
                                                                                      140737488355328 ∧
                                                                                    inI64 (k + 1) ∧
                                                                                      out = out ∧
                                                                                        I i (k + 1)
                                                                                            (out_1 ++ [(3, 1)]) ∧
                                                                                          m i (k + 1)
                                                                                              (out_1 ++ [(3, 1)]) <
                                                                                            m i k out_1)))) ∧
                                  (¬(i < (↑a.length : Int) ∨ k < (↑b.length : Int)) → out_1 = stepsOf (wayKinds a b)))) :
    Con Try.prog f_diff_Way diff_Way_ct := ⟨diff_Way_ok.able, fun x hx =>
  con_eq hC (L := [(f_diff_costs, diff_costs_fi), (f_diff_add, diff_add_fi)]) (⟨diff_costs_ok, diff_add_ok, trivial⟩) diff_Way_ok (ct := diff_Way_ct) (depth := 3) (by kernel_rfl) x (H (@id (List (List UInt8) × List (List UInt8)) x).1 (@id (List (List UInt8) × List (List UInt8)) x).2 (mpr' hx (by kernel_rfl))) (by kernel_rfl)⟩

theorem diff_Steps_vc (hC : Cons Try.prog [(f_diff_fault, diff_fault_ct), (f_diff_Way, diff_Way_ct)])
    (H : ∀ (a : List (List UInt8)) (b : List (List UInt8)), (True) →
  lsPre [a, b] ∧
  (linesFault [a, b] ≠ 0 → [] = (diffSteps a b).fst ∧ linesFault [a, b] = (diffSteps a b).snd) ∧
    (¬linesFault [a, b] ≠ 0 →
      (linesPre a ∧ linesPre b) ∧ stepsOf (wayKinds a b) = (diffSteps a b).fst ∧ 0 = (diffSteps a b).snd)) :
    Con Try.prog f_diff_Steps diff_Steps_ct := ⟨diff_Steps_ok.able, fun x hx =>
  con_eq hC (L := []) (trivial) diff_Steps_ok (ct := diff_Steps_ct) (depth := 0) (by kernel_rfl) x (H (@id (List (List UInt8) × List (List UInt8)) x).1 (@id (List (List UInt8) × List (List UInt8)) x).2 (mpr' hx (by kernel_rfl))) (by kernel_rfl)⟩

theorem ref_LinesFault_vc (hC : Cons Try.prog [])
    (H : ∀ (ls : List (List (List UInt8))), (lsPre ls) →
  ∃ (I : Int → Prop),
  ∃ (m : Int → Nat),
    I 0 ∧
      ∀ (x : Int),
        I x →
          (x < (↑ls.length : Int) →
              0 ≤ x ∧
                x < (↑ls.length : Int) ∧
                  (80 < (↑(gt ls x).length : Int) → 1 = linesFault ls) ∧
                    (¬80 < (↑(gt ls x).length : Int) →
                      ∃ (I_1 : Int → Prop),
                        ∃ (m_1 : Int → Nat),
                          I_1 0 ∧
                            ∀ (x_1 : Int),
                              I_1 x_1 →
                                (x_1 < (↑(gt ls x).length : Int) →
                                    0 ≤ x_1 ∧
                                      x_1 < (↑(gt ls x).length : Int) ∧
                                        (600 < (↑(gt (gt ls x) x_1).length : Int) → 1 = linesFault ls) ∧
                                          (¬600 < (↑(gt (gt ls x) x_1).length : Int) →
                                            inI64 (x_1 + 1) ∧ I_1 (x_1 + 1) ∧ m_1 (x_1 + 1) < m_1 x_1)) ∧
                                  (¬x_1 < (↑(gt ls x).length : Int) → inI64 (x + 1) ∧ I (x + 1) ∧ m (x + 1) < m x))) ∧
            (¬x < (↑ls.length : Int) → 0 = linesFault ls)) :
    Con Try.prog f_ref_LinesFault ref_LinesFault_ct := ⟨ref_LinesFault_ok.able, fun x hx =>
  con_eq hC (L := []) (trivial) ref_LinesFault_ok (ct := ref_LinesFault_ct) (depth := 0) (by kernel_rfl) x (H (@id (List (List (List UInt8))) x) (mpr' hx (by kernel_rfl))) (by kernel_rfl)⟩

theorem ref_common_vc (hC : Cons Try.prog [])
    (H : ∀ (a : List (List UInt8)) (b : List (List UInt8)), (linesPre a ∧ linesPre b) →
  inI64 ((↑b.length : Int) + 1) ∧
  (↑b.length : Int) + 1 = (↑b.length : Int) + 1 ∧
    0 ≤ (↑b.length : Int) + 1 ∧
      8 * ((↑b.length : Int) + 1).toNat ≤ 140737488355328 ∧
        ∃ (I : Int → List Int → Prop),
          ∃ (m : Int → List Int → Nat),
            I 0 (List.replicate ((↑b.length : Int) + 1).toNat 0) ∧
              ∀ (x : Int) (row : List Int),
                I x row →
                  (x < (↑a.length : Int) →
                      0 ≤ x ∧
                        x < (↑a.length : Int) ∧
                          inI64 ((↑b.length : Int) + 1) ∧
                            (↑b.length : Int) + 1 = (↑b.length : Int) + 1 ∧
                              0 ≤ (↑b.length : Int) + 1 ∧
                                8 * ((↑b.length : Int) + 1).toNat ≤ 140737488355328 ∧
                                  ∃ (I_1 : Int → List Int → Prop),
                                    ∃ (m_1 : Int → List Int → Nat),
                                      (row = row ∧ I_1 0 (List.replicate ((↑b.length : Int) + 1).toNat 0)) ∧
                                        ∀ (x_1 : Int) (next : List Int),
                                          I_1 x_1 next →
                                            (x_1 < (↑b.length : Int) →
                                                0 ≤ x_1 ∧
                                                  x_1 < (↑b.length : Int) ∧
                                                    inI64 (x_1 + 1) ∧
                                                      inI64 (x_1 + 1) ∧
                                                        0 ≤ x_1 + 1 ∧
                                                          x_1 + 1 < (↑row.length : Int) ∧
                                                            0 ≤ x_1 ∧
                                                              x_1 < (↑next.length : Int) ∧
                                                                0 ≤ x_1 + 1 ∧
                                                                  x_1 + 1 < (↑next.length : Int) ∧
                                                                    (gt a x = gt b x_1 →
                                                                        inI64 (x_1 + 1) ∧
                                                                          inI64 (x_1 + 1) ∧
                                                                            0 ≤ x_1 + 1 ∧
                                                                              x_1 + 1 <
                                                                                  (↑(next.set (x_1 + 1).toNat
                                                                                          (max (gt row (x_1 + 1))
                                                                                            (gt next x_1))).length :
                                                                                    Int) ∧
                                                                                0 ≤ x_1 ∧
                                                                                  x_1 < (↑row.length : Int) ∧
                                                                                    inI64 (gt row x_1 + 1) ∧
                                                                                      0 ≤ x_1 + 1 ∧
                                                                                        x_1 + 1 <
                                                                                            (↑(next.set (x_1 + 1).toNat
                                                                                                    (max
                                                                                                      (gt row (x_1 + 1))
                                                                                                      (gt next
                                                                                                        x_1))).length :
                                                                                              Int) ∧
                                                                                          inI64 (x_1 + 1) ∧
                                                                                            row = row ∧
                                                                                              I_1 (x_1 + 1)
                                                                                                  ((next.set
                                                                                                        (x_1 + 1).toNat
                                                                                                        (max
                                                                                                          (gt row
                                                                                                            (x_1 + 1))
                                                                                                          (gt next
                                                                                                            x_1))).set
                                                                                                    (x_1 + 1).toNat
                                                                                                    (max
                                                                                                      (gt
                                                                                                        (next.set
                                                                                                          (x_1 +
                                                                                                              1).toNat
                                                                                                          (max
                                                                                                            (gt row
                                                                                                              (x_1 + 1))
                                                                                                            (gt next
                                                                                                              x_1)))
                                                                                                        (x_1 + 1))
                                                                                                      (gt row x_1 +
                                                                                                        1))) ∧
                                                                                                m_1 (x_1 + 1)
                                                                                                    ((next.set
                                                                                                          (x_1 +
                                                                                                              1).toNat
                                                                                                          (max
                                                                                                            (gt row
                                                                                                              (x_1 + 1))
                                                                                                            (gt next
                                                                                                              x_1))).set
                                                                                                      (x_1 + 1).toNat
                                                                                                      (max
                                                                                                        (gt
                                                                                                          (next.set
                                                                                                            (x_1 +
                                                                                                                1).toNat
                                                                                                            (max
                                                                                                              (gt row
                                                                                                                (x_1 +
                                                                                                                  1))
                                                                                                              (gt next
                                                                                                                x_1)))
                                                                                                          (x_1 + 1))
                                                                                                        (gt row x_1 +
                                                                                                          1))) <
                                                                                                  m_1 x_1 next) ∧
                                                                      (¬gt a x = gt b x_1 →
                                                                        inI64 (x_1 + 1) ∧
                                                                          row = row ∧
                                                                            I_1 (x_1 + 1)
                                                                                (next.set (x_1 + 1).toNat
                                                                                  (max (gt row (x_1 + 1))
                                                                                    (gt next x_1))) ∧
                                                                              m_1 (x_1 + 1)
                                                                                  (next.set (x_1 + 1).toNat
                                                                                    (max (gt row (x_1 + 1))
                                                                                      (gt next x_1))) <
                                                                                m_1 x_1 next)) ∧
                                              (¬x_1 < (↑b.length : Int) →
                                                inI64 (x + 1) ∧ I (x + 1) next ∧ m (x + 1) next < m x row)) ∧
                    (¬x < (↑a.length : Int) →
                      0 ≤ (↑b.length : Int) ∧
                        (↑b.length : Int) < (↑row.length : Int) ∧ gt row (↑b.length : Int) = (↑(lcs a b) : Int))) :
    Con Try.prog f_ref_common ref_common_ct := ⟨ref_common_ok.able, fun x hx =>
  con_eq hC (L := []) (trivial) ref_common_ok (ct := ref_common_ct) (depth := 0) (by kernel_rfl) x (H (@id (List (List UInt8) × List (List UInt8)) x).1 (@id (List (List UInt8) × List (List UInt8)) x).2 (mpr' hx (by kernel_rfl))) (by kernel_rfl)⟩

theorem ref_DiffSteps_vc (hC : Cons Try.prog [(f_ref_LinesFault, ref_LinesFault_ct), (f_ref_common, ref_common_ct)])
    (H : ∀ (a : List (List UInt8)) (b : List (List UInt8)), (True) →
  lsPre [a, b] ∧
  (linesFault [a, b] ≠ (0 : Int) → [] = (diffSteps a b).fst ∧ linesFault [a, b] = (diffSteps a b).snd) ∧
    (¬linesFault [a, b] ≠ (0 : Int) →
      ∃ (I : List (List UInt8) → List (List UInt8) → List Int → Prop),
        ∃ (m : List (List UInt8) → List (List UInt8) → List Int → Nat),
          I a b [] ∧
            ∀ (a_2 b_1 : List (List UInt8)) (kinds : List Int),
              I a_2 b_1 kinds →
                ((0 : Int) < (↑a_2.length : Int) ∨ (0 : Int) < (↑b_1.length : Int) →
                    ((0 : Int) < (↑a_2.length : Int) ∧ (0 : Int) < (↑b_1.length : Int) → (0 : Int) ≤ (0 : Int)) ∧
                      ((0 : Int) < (↑a_2.length : Int) ∧ (0 : Int) < (↑b_1.length : Int) →
                          (0 : Int) < (↑a_2.length : Int)) ∧
                        ((0 : Int) < (↑a_2.length : Int) ∧ (0 : Int) < (↑b_1.length : Int) → (0 : Int) ≤ (0 : Int)) ∧
                          ((0 : Int) < (↑a_2.length : Int) ∧ (0 : Int) < (↑b_1.length : Int) →
                              (0 : Int) < (↑b_1.length : Int)) ∧
                            (((0 : Int) < (↑a_2.length : Int) ∧ (0 : Int) < (↑b_1.length : Int)) ∧
                                  gt a_2 (0 : Int) = gt b_1 (0 : Int) →
                                (kinds.length + (1 : Nat)) * (8 : Nat) ≤ (140737488355328 : Nat) ∧
                                  (0 : Int) ≤ (1 : Int) ∧
                                    (1 : Int) ≤ (↑a_2.length : Int) ∧
                                      (↑a_2.length : Int) ≤ (↑a_2.length : Int) ∧
                                        (0 : Int) ≤ (1 : Int) ∧
                                          (1 : Int) ≤ (↑b_1.length : Int) ∧
                                            (↑b_1.length : Int) ≤ (↑b_1.length : Int) ∧
                                              I
                                                  (List.drop (Int.toNat (1 : Int))
                                                    (List.take (↑a_2.length : Int).toNat a_2))
                                                  (List.drop (Int.toNat (1 : Int))
                                                    (List.take (↑b_1.length : Int).toNat b_1))
                                                  (kinds ++ [(1 : Int)]) ∧
                                                m
                                                    (List.drop (Int.toNat (1 : Int))
                                                      (List.take (↑a_2.length : Int).toNat a_2))
                                                    (List.drop (Int.toNat (1 : Int))
                                                      (List.take (↑b_1.length : Int).toNat b_1))
                                                    (kinds ++ [(1 : Int)]) <
                                                  m a_2 b_1 kinds) ∧
                              (¬(((0 : Int) < (↑a_2.length : Int) ∧ (0 : Int) < (↑b_1.length : Int)) ∧
                                    gt a_2 (0 : Int) = gt b_1 (0 : Int)) →
                                ((0 : Int) < (↑a_2.length : Int) → (0 : Int) ≤ (1 : Int)) ∧
                                  ((0 : Int) < (↑a_2.length : Int) → (1 : Int) ≤ (↑a_2.length : Int)) ∧
                                    ((0 : Int) < (↑a_2.length : Int) → (↑a_2.length : Int) ≤ (↑a_2.length : Int)) ∧
                                      ((0 : Int) < (↑a_2.length : Int) →
                                          linesPre
                                              (List.drop (Int.toNat (1 : Int))
                                                (List.take (↑a_2.length : Int).toNat a_2)) ∧
                                            linesPre b_1) ∧
                                        ((0 : Int) < (↑a_2.length : Int) → linesPre a_2 ∧ linesPre b_1) ∧
                                          ((0 : Int) < (↑a_2.length : Int) ∧
                                                (↑(lcs
                                                        (List.drop (Int.toNat (1 : Int))
                                                          (List.take (↑a_2.length : Int).toNat a_2))
                                                        b_1) :
                                                    Int) =
                                                  (↑(lcs a_2 b_1) : Int) →
                                              (kinds.length + (1 : Nat)) * (8 : Nat) ≤ (140737488355328 : Nat) ∧
                                                (0 : Int) ≤ (1 : Int) ∧
                                                  (1 : Int) ≤ (↑a_2.length : Int) ∧
                                                    (↑a_2.length : Int) ≤ (↑a_2.length : Int) ∧
                                                      I
                                                          (List.drop (Int.toNat (1 : Int))
                                                            (List.take (↑a_2.length : Int).toNat a_2))
                                                          b_1 (kinds ++ [(2 : Int)]) ∧
                                                        m
                                                            (List.drop (Int.toNat (1 : Int))
                                                              (List.take (↑a_2.length : Int).toNat a_2))
                                                            b_1 (kinds ++ [(2 : Int)]) <
                                                          m a_2 b_1 kinds) ∧
                                            (¬((0 : Int) < (↑a_2.length : Int) ∧
                                                  (↑(lcs
                                                          (List.drop (Int.toNat (1 : Int))
                                                            (List.take (↑a_2.length : Int).toNat a_2))
                                                          b_1) :
                                                      Int) =
                                                    (↑(lcs a_2 b_1) : Int)) →
                                              (kinds.length + (1 : Nat)) * (8 : Nat) ≤ (140737488355328 : Nat) ∧
                                                (0 : Int) ≤ (1 : Int) ∧
                                                  (1 : Int) ≤ (↑b_1.length : Int) ∧
                                                    (↑b_1.length : Int) ≤ (↑b_1.length : Int) ∧
                                                      I a_2
                                                          (List.drop (Int.toNat (1 : Int))
                                                            (List.take (↑b_1.length : Int).toNat b_1))
                                                          (kinds ++ [(3 : Int)]) ∧
                                                        m a_2
                                                            (List.drop (Int.toNat (1 : Int))
                                                              (List.take (↑b_1.length : Int).toNat b_1))
                                                            (kinds ++ [(3 : Int)]) <
                                                          m a_2 b_1 kinds))) ∧
                  (¬((0 : Int) < (↑a_2.length : Int) ∨ (0 : Int) < (↑b_1.length : Int)) →
                    ∃ (I : Int → List (Int × Int) → Prop),
                      ∃ (m : Int → List (Int × Int) → Nat),
                        (kinds = kinds ∧ I (0 : Int) []) ∧
                          ∀ (x : Int) (out : List (Int × Int)),
                            I x out →
                              (x < (↑kinds.length : Int) →
                                  (0 : Int) ≤ x ∧
                                    x < (↑kinds.length : Int) ∧
                                      ((0 : Int) < x → inI64 (x - (1 : Int))) ∧
                                        ((0 : Int) < x → (0 : Int) ≤ x - (1 : Int)) ∧
                                          ((0 : Int) < x → x - (1 : Int) < (↑kinds.length : Int)) ∧
                                            ((0 : Int) < x ∧ gt kinds (x - (1 : Int)) = gt kinds x →
                                                inI64 ((↑out.length : Int) - (1 : Int)) ∧
                                                  (0 : Int) ≤ (↑out.length : Int) - (1 : Int) ∧
                                                    (↑out.length : Int) - (1 : Int) < (↑out.length : Int) ∧
                                                      inI64
                                                          ((gt out ((↑out.length : Int) - (1 : Int))).snd + (1 : Int)) ∧
                                                        (0 : Int) ≤ (↑out.length : Int) - (1 : Int) ∧
                                                          (↑out.length : Int) - (1 : Int) < (↑out.length : Int) ∧
                                                            inI64 (x + (1 : Int)) ∧
                                                              kinds = kinds ∧
                                                                I (x + (1 : Int))
                                                                    (out.set ((↑out.length : Int) - (1 : Int)).toNat
                                                                      ((gt out ((↑out.length : Int) - (1 : Int))).fst,
                                                                        (gt out ((↑out.length : Int) - (1 : Int))).snd +
                                                                          (1 : Int))) ∧
                                                                  m (x + (1 : Int))
                                                                      (out.set ((↑out.length : Int) - (1 : Int)).toNat
                                                                        ((gt out ((↑out.length : Int) - (1 : Int))).fst,
                                                                          (gt out
                                                                                ((↑out.length : Int) - (1 : Int))).snd +
                                                                            (1 : Int))) <
                                                                    m x out) ∧
                                              (¬((0 : Int) < x ∧ gt kinds (x - (1 : Int)) = gt kinds x) →
                                                (out.length + (1 : Nat)) * (16 : Nat) ≤ (140737488355328 : Nat) ∧
                                                  inI64 (x + (1 : Int)) ∧
                                                    kinds = kinds ∧
                                                      I (x + (1 : Int)) (out ++ [(gt kinds x, (1 : Int))]) ∧
                                                        m (x + (1 : Int)) (out ++ [(gt kinds x, (1 : Int))]) <
                                                          m x out)) ∧
                                (¬x < (↑kinds.length : Int) →
                                  out = (diffSteps a b).fst ∧ (0 : Int) = (diffSteps a b).snd)))) :
    Con Try.prog f_ref_DiffSteps ref_DiffSteps_ct := ⟨ref_DiffSteps_ok.able, fun x hx =>
  con_eq hC (L := []) (trivial) ref_DiffSteps_ok (ct := ref_DiffSteps_ct) (depth := 0) (by kernel_rfl) x (H (@id (List (List UInt8) × List (List UInt8)) x).1 (@id (List (List UInt8) × List (List UInt8)) x).2 (mpr' hx (by kernel_rfl))) (by kernel_rfl)⟩

theorem law_DiffSteps_vc (hC : Cons Try.prog [(f_diff_Steps, diff_Steps_ct), (f_ref_DiffSteps, ref_DiffSteps_ct)])
    (H : ∀ (a : List (List UInt8)) (b : List (List UInt8)), ((a.length ≤ 140737488351232 ∧ ∀ (x : List UInt8), List.Mem x a → x.length.le 140737488351232) ∧
  b.length ≤ 140737488351232 ∧ ∀ (x : List UInt8), List.Mem x b → x.length.le 140737488351232) →
  True ∧
  True ∧
    ((↑(diffSteps a b).fst.length : Int) ≠ (↑(diffSteps a b).fst.length : Int) ∨
          (diffSteps a b).snd ≠ (diffSteps a b).snd →
        false = true) ∧
      (¬((↑(diffSteps a b).fst.length : Int) ≠ (↑(diffSteps a b).fst.length : Int) ∨
            (diffSteps a b).snd ≠ (diffSteps a b).snd) →
        ∃ (I : Int → Prop),
          ∃ (m : Int → Nat),
            ((diffSteps a b).fst = (diffSteps a b).fst ∧ (diffSteps a b).fst = (diffSteps a b).fst ∧ I 0) ∧
              ∀ (i : Int),
                I i →
                  (i < (↑(diffSteps a b).fst.length : Int) →
                      0 ≤ i ∧
                        i < (↑(diffSteps a b).fst.length : Int) ∧
                          0 ≤ i ∧
                            i < (↑(diffSteps a b).fst.length : Int) ∧
                              (¬((gt (diffSteps a b).fst i).fst = (gt (diffSteps a b).fst i).fst ∧
                                      (gt (diffSteps a b).fst i).snd = (gt (diffSteps a b).fst i).snd) →
                                  false = true) ∧
                                (¬¬((gt (diffSteps a b).fst i).fst = (gt (diffSteps a b).fst i).fst ∧
                                        (gt (diffSteps a b).fst i).snd = (gt (diffSteps a b).fst i).snd) →
                                  inI64 (i + 1) ∧
                                    (diffSteps a b).fst = (diffSteps a b).fst ∧
                                      (diffSteps a b).fst = (diffSteps a b).fst ∧ I (i + 1) ∧ m (i + 1) < m i)) ∧
                    (¬i < (↑(diffSteps a b).fst.length : Int) → true = true))) :
    Con Try.prog f_law_DiffSteps law_DiffSteps_ct := ⟨law_DiffSteps_ok.able, fun x hx =>
  con_eq hC (L := []) (trivial) law_DiffSteps_ok (ct := law_DiffSteps_ct) (depth := 0) (by kernel_rfl) x (H (@id (List (List UInt8) × List (List UInt8)) x).1 (@id (List (List UInt8) × List (List UInt8)) x).2 (mpr' hx (by kernel_rfl))) (by kernel_rfl)⟩

end Go.Proofs.Ytigcaalfadoiaaa
