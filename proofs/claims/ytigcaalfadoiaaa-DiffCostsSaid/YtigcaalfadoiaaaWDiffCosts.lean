/- The typed conditions of the functions, printed by a program of the claim's author; each gives the contract of its function. Conditions: none. -/
import Derived.Test.YtigcaalfadoiaaaGDiffCosts
import Derived.Test.YtigcaalfadoiaaaVpA
import Derived.Test.YtigcaalfadoiaaaVpB
import Derived.Test.YtigcaalfadoiaaaVpC
import Derived.Test.YtigcaalfadoiaaaVpE
import Derived.Test.YtigcaalfadoiaaaVpT
import Derived.Test.YtigcaalfadoiaaaBase
set_option linter.unusedVariables false
set_option linter.unusedSimpArgs false
set_option maxRecDepth 100000
namespace Go.Proofs.Ytigcaalfadoiaaa
open Go.Vc Go.Fu

theorem diff_fault_vc (hC : Cons Try.prog [])
    (H : ∀ (ls : List (List (List UInt8))), (lsPre ls) →
  ∃ (I : Int → Prop),
  ∃ (m : Int → Nat),
    I (0 : Int) ∧
      ∀ (x : Int),
        I x →
          (x < (↑ls.length : Int) →
              (0 : Int) ≤ x ∧
                x < (↑ls.length : Int) ∧
                  (¬(80 : Int) < (↑(gt ls x).length : Int) →
                      ∃ (I_1 : Int → Prop),
                        ∃ (m_1 : Int → Nat),
                          I_1 (0 : Int) ∧
                            ∀ (x_1 : Int),
                              I_1 x_1 →
                                (x_1 < (↑(gt ls x).length : Int) →
                                    (0 : Int) ≤ x_1 ∧
                                      x_1 < (↑(gt ls x).length : Int) ∧
                                        ((600 : Int) < (↑(gt (gt ls x) x_1).length : Int) →
                                            ((80 : Int) < (↑(gt ls x).length : Int) ∨ (0 : Int) ≤ x_1 →
                                                (1 : Int) = linesFault ls) ∧
                                              (¬((80 : Int) < (↑(gt ls x).length : Int) ∨ (0 : Int) ≤ x_1) →
                                                inI64 (x + (1 : Int)) ∧ I (x + (1 : Int)) ∧ m (x + (1 : Int)) < m x)) ∧
                                          (¬(600 : Int) < (↑(gt (gt ls x) x_1).length : Int) →
                                            inI64 (x_1 + (1 : Int)) ∧
                                              I_1 (x_1 + (1 : Int)) ∧ m_1 (x_1 + (1 : Int)) < m_1 x_1)) ∧
                                  (¬x_1 < (↑(gt ls x).length : Int) →
                                    ((80 : Int) < (↑(gt ls x).length : Int) ∨ (0 : Int) ≤ (-1 : Int) →
                                        (1 : Int) = linesFault ls) ∧
                                      (¬((80 : Int) < (↑(gt ls x).length : Int) ∨ (0 : Int) ≤ (-1 : Int)) →
                                        inI64 (x + (1 : Int)) ∧ I (x + (1 : Int)) ∧ m (x + (1 : Int)) < m x))) ∧
                    (¬¬(80 : Int) < (↑(gt ls x).length : Int) →
                      ((80 : Int) < (↑(gt ls x).length : Int) → (1 : Int) = linesFault ls) ∧
                        (¬(80 : Int) < (↑(gt ls x).length : Int) →
                          inI64 (x + (1 : Int)) ∧ I (x + (1 : Int)) ∧ m (x + (1 : Int)) < m x))) ∧
            (¬x < (↑ls.length : Int) → (0 : Int) = linesFault ls)) :
    Con Try.prog f_diff_fault diff_fault_ct := ⟨diff_fault_ok.able, fun x hx =>
  con_eq hC (L := [(f_slices_ContainsFunc___string_string_, slices_ContainsFunc___string_string__fi), (f_slices_IndexFunc___string_string_, slices_IndexFunc___string_string__fi), (f_diff_fault_1, diff_fault_1_fi)]) (⟨slices_ContainsFunc___string_string__ok, slices_IndexFunc___string_string__ok, diff_fault_1_ok, trivial⟩) diff_fault_ok (ct := diff_fault_ct) (depth := 4) (by kernel_rfl) x (H (@id (List (List (List UInt8))) x) (mpr' hx (by kernel_rfl))) (by kernel_rfl)⟩

theorem diff_Cost_vc (hC : Cons Try.prog [(f_diff_fault, diff_fault_ct)])
    (H : ∀ (a : List (List UInt8)) (b : List (List UInt8)), (True) →
  lsPre [a, b] ∧
  (linesFault [a, b] ≠ (0 : Int) → (0 : Int) = (diffCost a b).fst ∧ linesFault [a, b] = (diffCost a b).snd) ∧
    (¬linesFault [a, b] ≠ (0 : Int) →
      inI64 ((↑a.length : Int) + (1 : Int)) ∧
        (↑a.length : Int) + (1 : Int) = (↑a.length : Int) + (1 : Int) ∧
          (0 : Int) ≤ (↑a.length : Int) + (1 : Int) ∧
            (24 : Nat) * ((↑a.length : Int) + (1 : Int)).toNat ≤ (140737488355328 : Nat) ∧
              ∃ (I : Int → List (List Int) → Prop),
                ∃ (m : Int → List (List Int) → Nat),
                  I (↑a.length : Int) (List.replicate ((↑a.length : Int) + (1 : Int)).toNat (noRow Int)) ∧
                    ∀ (i : Int) (out : List (List Int)),
                      I i out →
                        ((0 : Int) ≤ i →
                            inI64 ((↑b.length : Int) + (1 : Int)) ∧
                              (↑b.length : Int) + (1 : Int) = (↑b.length : Int) + (1 : Int) ∧
                                (0 : Int) ≤ (↑b.length : Int) + (1 : Int) ∧
                                  (8 : Nat) * ((↑b.length : Int) + (1 : Int)).toNat ≤ (140737488355328 : Nat) ∧
                                    (0 : Int) ≤ i ∧
                                      i < (↑out.length : Int) ∧
                                        ∃ (I_1 : Int → List (List Int) → Prop),
                                          ∃ (m_1 : Int → List (List Int) → Nat),
                                            I_1 (↑b.length : Int)
                                                (out.set i.toNat
                                                  (List.replicate ((↑b.length : Int) + (1 : Int)).toNat (0 : Int))) ∧
                                              ∀ (k : Int) (out_1 : List (List Int)),
                                                I_1 k out_1 →
                                                  ((0 : Int) ≤ k →
                                                      (i = (↑a.length : Int) →
                                                          (0 : Int) ≤ i ∧
                                                            i < (↑out_1.length : Int) ∧
                                                              inI64 ((↑b.length : Int) - k) ∧
                                                                (0 : Int) ≤ k ∧
                                                                  k < (↑(gt out_1 i).length : Int) ∧
                                                                    inI64 (k - (1 : Int)) ∧
                                                                      I_1 (k - (1 : Int))
                                                                          (out_1.set i.toNat
                                                                            ((gt out_1 i).set k.toNat
                                                                              ((↑b.length : Int) - k))) ∧
                                                                        m_1 (k - (1 : Int))
                                                                            (out_1.set i.toNat
                                                                              ((gt out_1 i).set k.toNat
                                                                                ((↑b.length : Int) - k))) <
                                                                          m_1 k out_1) ∧
                                                        (¬i = (↑a.length : Int) →
                                                          (k = (↑b.length : Int) →
                                                              (0 : Int) ≤ i ∧
                                                                i < (↑out_1.length : Int) ∧
                                                                  inI64 ((↑a.length : Int) - i) ∧
                                                                    (0 : Int) ≤ k ∧
                                                                      k < (↑(gt out_1 i).length : Int) ∧
                                                                        inI64 (k - (1 : Int)) ∧
                                                                          I_1 (k - (1 : Int))
                                                                              (out_1.set i.toNat
                                                                                ((gt out_1 i).set k.toNat
                                                                                  ((↑a.length : Int) - i))) ∧
                                                                            m_1 (k - (1 : Int))
                                                                                (out_1.set i.toNat
                                                                                  ((gt out_1 i).set k.toNat
                                                                                    ((↑a.length : Int) - i))) <
                                                                              m_1 k out_1) ∧
                                                            (¬k = (↑b.length : Int) →
                                                              (0 : Int) ≤ i ∧
                                                                i < (↑a.length : Int) ∧
                                                                  (0 : Int) ≤ k ∧
                                                                    k < (↑b.length : Int) ∧
                                                                      (gt a i = gt b k →
                                                                          (0 : Int) ≤ i ∧
                                                                            i < (↑out_1.length : Int) ∧
                                                                              inI64 (i + (1 : Int)) ∧
                                                                                (0 : Int) ≤ i + (1 : Int) ∧
                                                                                  i + (1 : Int) <
                                                                                      (↑out_1.length : Int) ∧
                                                                                    inI64 (k + (1 : Int)) ∧
                                                                                      (0 : Int) ≤ k + (1 : Int) ∧
                                                                                        k + (1 : Int) <
                                                                                            (↑(gt out_1
                                                                                                    (i +
                                                                                                      (1 :
                                                                                                        Int))).length :
                                                                                              Int) ∧
                                                                                          (0 : Int) ≤ k ∧
                                                                                            k <
                                                                                                (↑(gt out_1 i).length :
                                                                                                  Int) ∧
                                                                                              inI64 (k - (1 : Int)) ∧
                                                                                                I_1 (k - (1 : Int))
                                                                                                    (out_1.set i.toNat
                                                                                                      ((gt out_1 i).set
                                                                                                        k.toNat
                                                                                                        (gt
                                                                                                          (gt out_1
                                                                                                            (i +
                                                                                                              (1 :
                                                                                                                Int)))
                                                                                                          (k +
                                                                                                            (1 :
                                                                                                              Int))))) ∧
                                                                                                  m_1 (k - (1 : Int))
                                                                                                      (out_1.set i.toNat
                                                                                                        ((gt out_1
                                                                                                              i).set
                                                                                                          k.toNat
                                                                                                          (gt
                                                                                                            (gt out_1
                                                                                                              (i +
                                                                                                                (1 :
                                                                                                                  Int)))
                                                                                                            (k +
                                                                                                              (1 :
                                                                                                                Int))))) <
                                                                                                    m_1 k out_1) ∧
                                                                        (¬gt a i = gt b k →
                                                                          (0 : Int) ≤ i ∧
                                                                            i < (↑out_1.length : Int) ∧
                                                                              inI64 (i + (1 : Int)) ∧
                                                                                (0 : Int) ≤ i + (1 : Int) ∧
                                                                                  i + (1 : Int) <
                                                                                      (↑out_1.length : Int) ∧
                                                                                    (0 : Int) ≤ k ∧
                                                                                      k <
                                                                                          (↑(gt out_1
                                                                                                  (i +
                                                                                                    (1 : Int))).length :
                                                                                            Int) ∧
                                                                                        (0 : Int) ≤ i ∧
                                                                                          i < (↑out_1.length : Int) ∧
                                                                                            inI64 (k + (1 : Int)) ∧
                                                                                              (0 : Int) ≤
                                                                                                  k + (1 : Int) ∧
                                                                                                k + (1 : Int) <
                                                                                                    (↑(gt out_1
                                                                                                            i).length :
                                                                                                      Int) ∧
                                                                                                  inI64
                                                                                                      ((1 : Int) +
                                                                                                        min
                                                                                                          (gt
                                                                                                            (gt out_1
                                                                                                              (i +
                                                                                                                (1 :
                                                                                                                  Int)))
                                                                                                            k)
                                                                                                          (gt
                                                                                                            (gt out_1 i)
                                                                                                            (k +
                                                                                                              (1 :
                                                                                                                Int)))) ∧
                                                                                                    (0 : Int) ≤ k ∧
                                                                                                      k <
                                                                                                          (↑(gt out_1
                                                                                                                  i).length :
                                                                                                            Int) ∧
                                                                                                        inI64
                                                                                                            (k -
                                                                                                              (1 :
                                                                                                                Int)) ∧
                                                                                                          I_1
                                                                                                              (k -
                                                                                                                (1 :
                                                                                                                  Int))
                                                                                                              (out_1.set
                                                                                                                i.toNat
                                                                                                                ((gt
                                                                                                                      out_1
                                                                                                                      i).set
                                                                                                                  k.toNat
                                                                                                                  ((1 :
                                                                                                                      Int) +
                                                                                                                    min
                                                                                                                      (gt
                                                                                                                        (gt
                                                                                                                          out_1
                                                                                                                          (i +
                                                                                                                            (1 :
                                                                                                                              Int)))
                                                                                                                        k)
                                                                                                                      (gt
                                                                                                                        (gt
                                                                                                                          out_1
                                                                                                                          i)
                                                                                                                        (k +
                                                                                                                          (1 :
                                                                                                                            Int)))))) ∧
                                                                                                            m_1
                                                                                                                (k -
                                                                                                                  (1 :
                                                                                                                    Int))
                                                                                                                (out_1.set
                                                                                                                  i.toNat
                                                                                                                  ((gt
                                                                                                                        out_1
                                                                                                                        i).set
                                                                                                                    k.toNat
                                                                                                                    ((1 :
                                                                                                                        Int) +
                                                                                                                      min
                                                                                                                        (gt
                                                                                                                          (gt
                                                                                                                            out_1
                                                                                                                            (i +
                                                                                                                              (1 :
                                                                                                                                Int)))
                                                                                                                          k)
                                                                                                                        (gt
                                                                                                                          (gt
                                                                                                                            out_1
                                                                                                                            i)
                                                                                                                          (k +
                                                                                                                            (1 :
                                                                                                                              Int)))))) <
                                                                                                              m_1 k
                                                                                                                out_1)))) ∧
                                                    (¬(0 : Int) ≤ k →
                                                      inI64 (i - (1 : Int)) ∧
                                                        I (i - (1 : Int)) out_1 ∧ m (i - (1 : Int)) out_1 < m i out)) ∧
                          (¬(0 : Int) ≤ i →
                            (0 : Int) ≤ (0 : Int) ∧
                              (0 : Int) < (↑out.length : Int) ∧
                                (0 : Int) ≤ (0 : Int) ∧
                                  (0 : Int) < (↑(gt out (0 : Int)).length : Int) ∧
                                    gt (gt out (0 : Int)) (0 : Int) = (diffCost a b).fst ∧
                                      (0 : Int) = (diffCost a b).snd))) :
    Con Try.prog f_diff_Cost diff_Cost_ct := ⟨diff_Cost_ok.able, fun x hx =>
  con_eq hC (L := [(f_diff_costs, diff_costs_fi)]) (⟨diff_costs_ok, trivial⟩) diff_Cost_ok (ct := diff_Cost_ct) (depth := 3) (by kernel_rfl) x (H (@id (List (List UInt8) × List (List UInt8)) x).1 (@id (List (List UInt8) × List (List UInt8)) x).2 (mpr' hx (by kernel_rfl))) (by kernel_rfl)⟩

theorem ref_LinesFault_vc (hC : Cons Try.prog [])
    (H : ∀ (ls : List (List (List UInt8))), (lsPre ls) →
  ∃ (I : Int → Prop),
  ∃ (m : Int → Nat),
    I 0 ∧
      ∀ (x : Int),
        I x →
          (x < (↑ls.length : Int) →
              0 ≤ x ∧
                x < (↑ls.length : Int) ∧
                  (80 < (↑(gt ls x).length : Int) → 1 = linesFault ls) ∧
                    (¬80 < (↑(gt ls x).length : Int) →
                      ∃ (I_1 : Int → Prop),
                        ∃ (m_1 : Int → Nat),
                          I_1 0 ∧
                            ∀ (x_1 : Int),
                              I_1 x_1 →
                                (x_1 < (↑(gt ls x).length : Int) →
                                    0 ≤ x_1 ∧
                                      x_1 < (↑(gt ls x).length : Int) ∧
                                        (600 < (↑(gt (gt ls x) x_1).length : Int) → 1 = linesFault ls) ∧
                                          (¬600 < (↑(gt (gt ls x) x_1).length : Int) →
                                            inI64 (x_1 + 1) ∧ I_1 (x_1 + 1) ∧ m_1 (x_1 + 1) < m_1 x_1)) ∧
                                  (¬x_1 < (↑(gt ls x).length : Int) → inI64 (x + 1) ∧ I (x + 1) ∧ m (x + 1) < m x))) ∧
            (¬x < (↑ls.length : Int) → 0 = linesFault ls)) :
    Con Try.prog f_ref_LinesFault ref_LinesFault_ct := ⟨ref_LinesFault_ok.able, fun x hx =>
  con_eq hC (L := []) (trivial) ref_LinesFault_ok (ct := ref_LinesFault_ct) (depth := 0) (by kernel_rfl) x (H (@id (List (List (List UInt8))) x) (mpr' hx (by kernel_rfl))) (by kernel_rfl)⟩

theorem ref_common_vc (hC : Cons Try.prog [])
    (H : ∀ (a : List (List UInt8)) (b : List (List UInt8)), (linesPre a ∧ linesPre b) →
  inI64 ((↑b.length : Int) + 1) ∧
  (↑b.length : Int) + 1 = (↑b.length : Int) + 1 ∧
    0 ≤ (↑b.length : Int) + 1 ∧
      8 * ((↑b.length : Int) + 1).toNat ≤ 140737488355328 ∧
        ∃ (I : Int → List Int → Prop),
          ∃ (m : Int → List Int → Nat),
            I 0 (List.replicate ((↑b.length : Int) + 1).toNat 0) ∧
              ∀ (x : Int) (row : List Int),
                I x row →
                  (x < (↑a.length : Int) →
                      0 ≤ x ∧
                        x < (↑a.length : Int) ∧
                          inI64 ((↑b.length : Int) + 1) ∧
                            (↑b.length : Int) + 1 = (↑b.length : Int) + 1 ∧
                              0 ≤ (↑b.length : Int) + 1 ∧
                                8 * ((↑b.length : Int) + 1).toNat ≤ 140737488355328 ∧
                                  ∃ (I_1 : Int → List Int → Prop),
                                    ∃ (m_1 : Int → List Int → Nat),
                                      (row = row ∧ I_1 0 (List.replicate ((↑b.length : Int) + 1).toNat 0)) ∧
                                        ∀ (x_1 : Int) (next : List Int),
                                          I_1 x_1 next →
                                            (x_1 < (↑b.length : Int) →
                                                0 ≤ x_1 ∧
                                                  x_1 < (↑b.length : Int) ∧
                                                    inI64 (x_1 + 1) ∧
                                                      inI64 (x_1 + 1) ∧
                                                        0 ≤ x_1 + 1 ∧
                                                          x_1 + 1 < (↑row.length : Int) ∧
                                                            0 ≤ x_1 ∧
                                                              x_1 < (↑next.length : Int) ∧
                                                                0 ≤ x_1 + 1 ∧
                                                                  x_1 + 1 < (↑next.length : Int) ∧
                                                                    (gt a x = gt b x_1 →
                                                                        inI64 (x_1 + 1) ∧
                                                                          inI64 (x_1 + 1) ∧
                                                                            0 ≤ x_1 + 1 ∧
                                                                              x_1 + 1 <
                                                                                  (↑(next.set (x_1 + 1).toNat
                                                                                          (max (gt row (x_1 + 1))
                                                                                            (gt next x_1))).length :
                                                                                    Int) ∧
                                                                                0 ≤ x_1 ∧
                                                                                  x_1 < (↑row.length : Int) ∧
                                                                                    inI64 (gt row x_1 + 1) ∧
                                                                                      0 ≤ x_1 + 1 ∧
                                                                                        x_1 + 1 <
                                                                                            (↑(next.set (x_1 + 1).toNat
                                                                                                    (max
                                                                                                      (gt row (x_1 + 1))
                                                                                                      (gt next
                                                                                                        x_1))).length :
                                                                                              Int) ∧
                                                                                          inI64 (x_1 + 1) ∧
                                                                                            row = row ∧
                                                                                              I_1 (x_1 + 1)
                                                                                                  ((next.set
                                                                                                        (x_1 + 1).toNat
                                                                                                        (max
                                                                                                          (gt row
                                                                                                            (x_1 + 1))
                                                                                                          (gt next
                                                                                                            x_1))).set
                                                                                                    (x_1 + 1).toNat
                                                                                                    (max
                                                                                                      (gt
                                                                                                        (next.set
                                                                                                          (x_1 +
                                                                                                              1).toNat
                                                                                                          (max
                                                                                                            (gt row
                                                                                                              (x_1 + 1))
                                                                                                            (gt next
                                                                                                              x_1)))
                                                                                                        (x_1 + 1))
                                                                                                      (gt row x_1 +
                                                                                                        1))) ∧
                                                                                                m_1 (x_1 + 1)
                                                                                                    ((next.set
                                                                                                          (x_1 +
                                                                                                              1).toNat
                                                                                                          (max
                                                                                                            (gt row
                                                                                                              (x_1 + 1))
                                                                                                            (gt next
                                                                                                              x_1))).set
                                                                                                      (x_1 + 1).toNat
                                                                                                      (max
                                                                                                        (gt
                                                                                                          (next.set
                                                                                                            (x_1 +
                                                                                                                1).toNat
                                                                                                            (max
                                                                                                              (gt row
                                                                                                                (x_1 +
                                                                                                                  1))
                                                                                                              (gt next
                                                                                                                x_1)))
                                                                                                          (x_1 + 1))
                                                                                                        (gt row x_1 +
                                                                                                          1))) <
                                                                                                  m_1 x_1 next) ∧
                                                                      (¬gt a x = gt b x_1 →
                                                                        inI64 (x_1 + 1) ∧
                                                                          row = row ∧
                                                                            I_1 (x_1 + 1)
                                                                                (next.set (x_1 + 1).toNat
                                                                                  (max (gt row (x_1 + 1))
                                                                                    (gt next x_1))) ∧
                                                                              m_1 (x_1 + 1)
                                                                                  (next.set (x_1 + 1).toNat
                                                                                    (max (gt row (x_1 + 1))
                                                                                      (gt next x_1))) <
                                                                                m_1 x_1 next)) ∧
                                              (¬x_1 < (↑b.length : Int) →
                                                inI64 (x + 1) ∧ I (x + 1) next ∧ m (x + 1) next < m x row)) ∧
                    (¬x < (↑a.length : Int) →
                      0 ≤ (↑b.length : Int) ∧
                        (↑b.length : Int) < (↑row.length : Int) ∧ gt row (↑b.length : Int) = (↑(lcs a b) : Int))) :
    Con Try.prog f_ref_common ref_common_ct := ⟨ref_common_ok.able, fun x hx =>
  con_eq hC (L := []) (trivial) ref_common_ok (ct := ref_common_ct) (depth := 0) (by kernel_rfl) x (H (@id (List (List UInt8) × List (List UInt8)) x).1 (@id (List (List UInt8) × List (List UInt8)) x).2 (mpr' hx (by kernel_rfl))) (by kernel_rfl)⟩

theorem ref_DiffCost_vc (hC : Cons Try.prog [(f_ref_LinesFault, ref_LinesFault_ct), (f_ref_common, ref_common_ct)])
    (H : ∀ (a : List (List UInt8)) (b : List (List UInt8)), (True) →
  lsPre [a, b] ∧
  (linesFault [a, b] ≠ 0 → 0 = (diffCost a b).fst ∧ linesFault [a, b] = (diffCost a b).snd) ∧
    (¬linesFault [a, b] ≠ 0 →
      inI64 ((↑a.length : Int) + (↑b.length : Int)) ∧
        (linesPre a ∧ linesPre b) ∧
          inI64 (2 * (↑(lcs a b) : Int)) ∧
            inI64 ((↑a.length : Int) + (↑b.length : Int) - 2 * (↑(lcs a b) : Int)) ∧
              (↑a.length : Int) + (↑b.length : Int) - 2 * (↑(lcs a b) : Int) = (diffCost a b).fst ∧
                0 = (diffCost a b).snd)) :
    Con Try.prog f_ref_DiffCost ref_DiffCost_ct := ⟨ref_DiffCost_ok.able, fun x hx =>
  con_eq hC (L := []) (trivial) ref_DiffCost_ok (ct := ref_DiffCost_ct) (depth := 0) (by kernel_rfl) x (H (@id (List (List UInt8) × List (List UInt8)) x).1 (@id (List (List UInt8) × List (List UInt8)) x).2 (mpr' hx (by kernel_rfl))) (by kernel_rfl)⟩

theorem law_DiffCosts_vc (hC : Cons Try.prog [(f_diff_Cost, diff_Cost_ct), (f_ref_DiffCost, ref_DiffCost_ct)])
    (H : ∀ (a : List (List UInt8)) (b : List (List UInt8)), ((a.length ≤ 140737488351232 ∧ ∀ (x : List UInt8), List.Mem x a → x.length.le 140737488351232) ∧
  b.length ≤ 140737488351232 ∧ ∀ (x : List UInt8), List.Mem x b → x.length.le 140737488351232) →
  True ∧ True ∧ bo ((diffCost a b).fst = (diffCost a b).fst ∧ (diffCost a b).snd = (diffCost a b).snd) = true) :
    Con Try.prog f_law_DiffCosts law_DiffCosts_ct := ⟨law_DiffCosts_ok.able, fun x hx =>
  con_eq hC (L := []) (trivial) law_DiffCosts_ok (ct := law_DiffCosts_ct) (depth := 0) (by kernel_rfl) x (H (@id (List (List UInt8) × List (List UInt8)) x).1 (@id (List (List UInt8) × List (List UInt8)) x).2 (mpr' hx (by kernel_rfl))) (by kernel_rfl)⟩

end Go.Proofs.Ytigcaalfadoiaaa
