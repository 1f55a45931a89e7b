/- The typed conditions of the functions, printed by a program of the claim's author; each gives the contract of its function. Conditions: none. -/
import Derived.Test.YtigcaalfadoiaaaGFuzzyNears
import Derived.Test.YtigcaalfadoiaaaVpA
import Derived.Test.YtigcaalfadoiaaaVpB
import Derived.Test.YtigcaalfadoiaaaVpS
import Derived.Test.YtigcaalfadoiaaaBase
set_option linter.unusedVariables false
set_option linter.unusedSimpArgs false
set_option maxRecDepth 100000
namespace Go.Proofs.Ytigcaalfadoiaaa
open Go.Vc Go.Fu

theorem fuzzy_long_vc (hC : Cons Try.prog [])
    (H : ∀ (words : List (List UInt8)), (wordsPre words) →
  ∃ (I : Int → Prop),
  ∃ (m : Int → Nat),
    I (0 : Int) ∧
      ∀ (x : Int),
        I x →
          (x < (↑words.length : Int) →
              (0 : Int) ≤ x ∧
                x < (↑words.length : Int) ∧
                  ((20 : Int) < (↑(gt words x).length : Int) → bo ((0 : Int) ≤ x) = longOf words) ∧
                    (¬(20 : Int) < (↑(gt words x).length : Int) →
                      inI64 (x + (1 : Int)) ∧ I (x + (1 : Int)) ∧ m (x + (1 : Int)) < m x)) ∧
            (¬x < (↑words.length : Int) → bo ((0 : Int) ≤ (-1 : Int)) = longOf words)) :
    Con Try.prog f_fuzzy_long fuzzy_long_ct := ⟨fuzzy_long_ok.able, fun x hx =>
  con_eq hC (L := [(f_slices_ContainsFunc___string_string_, slices_ContainsFunc___string_string__fi), (f_slices_IndexFunc___string_string_, slices_IndexFunc___string_string__fi), (f_fuzzy_long_1, fuzzy_long_1_fi)]) (⟨slices_ContainsFunc___string_string__ok, slices_IndexFunc___string_string__ok, fuzzy_long_1_ok, trivial⟩) fuzzy_long_ok (ct := fuzzy_long_ct) (depth := 4) (by kernel_rfl) x (H (@id (List (List UInt8)) x) (mpr' hx (by kernel_rfl))) (by kernel_rfl)⟩

theorem fuzzy_band_vc (hC : Cons Try.prog [])
    (H : ∀ (a : List UInt8) (b : List UInt8) (most : Int), (wordPre a ∧ wordPre b ∧ mostPre most) →
  inI64 ((↑a.length : Int) - (↑b.length : Int)) ∧
  inI64 ((↑b.length : Int) - (↑a.length : Int)) ∧
    (most < max ((↑a.length : Int) - (↑b.length : Int)) ((↑b.length : Int) - (↑a.length : Int)) →
        false = nearOf a b most) ∧
      (¬most < max ((↑a.length : Int) - (↑b.length : Int)) ((↑b.length : Int) - (↑a.length : Int)) →
        inI64 (most + (1 : Int)) ∧
          inI64 ((↑b.length : Int) + (1 : Int)) ∧
            (↑b.length : Int) + (1 : Int) = (↑b.length : Int) + (1 : Int) ∧
              (0 : Int) ≤ (↑b.length : Int) + (1 : Int) ∧
                (8 : Nat) * ((↑b.length : Int) + (1 : Int)).toNat ≤ (140737488355328 : Nat) ∧
                  ∃ (I : Int → List Int → Prop),
                    ∃ (m : Int → List Int → Nat),
                      I (0 : Int) (List.replicate ((↑b.length : Int) + (1 : Int)).toNat (0 : Int)) ∧
                        ∀ (x : Int) (row : List Int),
                          I x row →
                            (x < (↑(List.replicate ((↑b.length : Int) + (1 : Int)).toNat (0 : Int)).length : Int) →
                                (0 : Int) ≤ x ∧
                                  x < (↑row.length : Int) ∧
                                    inI64 (x + (1 : Int)) ∧
                                      I (x + (1 : Int)) (row.set x.toNat (min x (most + (1 : Int)))) ∧
                                        m (x + (1 : Int)) (row.set x.toNat (min x (most + (1 : Int)))) < m x row) ∧
                              (¬x < (↑(List.replicate ((↑b.length : Int) + (1 : Int)).toNat (0 : Int)).length : Int) →
                                ∃ (I : Int → List Int → Prop),
                                  ∃ (m : Int → List Int → Nat),
                                    I (0 : Int) row ∧
                                      ∀ (x : Int) (row : List Int),
                                        I x row →
                                          (x < (↑a.length : Int) →
                                              inI64 ((↑b.length : Int) + (1 : Int)) ∧
                                                (↑b.length : Int) + (1 : Int) = (↑b.length : Int) + (1 : Int) ∧
                                                  (0 : Int) ≤ (↑b.length : Int) + (1 : Int) ∧
                                                    (8 : Nat) * ((↑b.length : Int) + (1 : Int)).toNat ≤
                                                        (140737488355328 : Nat) ∧
                                                      ∃ (I_1 : Int → List Int → Prop),
                                                        ∃ (m_1 : Int → List Int → Nat),
                                                          (row = row ∧
                                                              I_1 (0 : Int)
                                                                (List.replicate ((↑b.length : Int) + (1 : Int)).toNat
                                                                  (0 : Int))) ∧
                                                            ∀ (x_1 : Int) (next : List Int),
                                                              I_1 x_1 next →
                                                                (x_1 <
                                                                      (↑(List.replicate
                                                                              ((↑b.length : Int) + (1 : Int)).toNat
                                                                              (0 : Int)).length :
                                                                        Int) →
                                                                    (0 : Int) ≤ x_1 ∧
                                                                      x_1 < (↑next.length : Int) ∧
                                                                        inI64 (x_1 + (1 : Int)) ∧
                                                                          row = row ∧
                                                                            I_1 (x_1 + (1 : Int))
                                                                                (next.set x_1.toNat
                                                                                  (most + (1 : Int))) ∧
                                                                              m_1 (x_1 + (1 : Int))
                                                                                  (next.set x_1.toNat
                                                                                    (most + (1 : Int))) <
                                                                                m_1 x_1 next) ∧
                                                                  (¬x_1 <
                                                                        (↑(List.replicate
                                                                                ((↑b.length : Int) + (1 : Int)).toNat
                                                                                (0 : Int)).length :
                                                                          Int) →
                                                                    inI64 (x + (1 : Int)) ∧
                                                                      inI64 (x + (1 : Int) - most) ∧
                                                                        ∃ (I_2 : Int → List Int → Prop),
                                                                          ∃ (m_2 : Int → List Int → Nat),
                                                                            (row = row ∧
                                                                                I_2
                                                                                  (max (0 : Int) (x + (1 : Int) - most))
                                                                                  next) ∧
                                                                              ∀ (k : Int) (next : List Int),
                                                                                I_2 k next →
                                                                                  inI64 (x + (1 : Int)) ∧
                                                                                    inI64 (x + (1 : Int) + most) ∧
                                                                                      (k ≤
                                                                                            min (↑b.length : Int)
                                                                                              (x + (1 : Int) + most) →
                                                                                          (k = (0 : Int) →
                                                                                              inI64 (x + (1 : Int)) ∧
                                                                                                (0 : Int) ≤ (0 : Int) ∧
                                                                                                  (0 : Int) <
                                                                                                      (↑next.length :
                                                                                                        Int) ∧
                                                                                                    inI64
                                                                                                        (k +
                                                                                                          (1 : Int)) ∧
                                                                                                      row = row ∧
                                                                                                        I_2
                                                                                                            (k +
                                                                                                              (1 : Int))
                                                                                                            (next.set
                                                                                                              (Int.toNat
                                                                                                                (0 :
                                                                                                                  Int))
                                                                                                              (min
                                                                                                                (x +
                                                                                                                  (1 :
                                                                                                                    Int))
                                                                                                                (most +
                                                                                                                  (1 :
                                                                                                                    Int)))) ∧
                                                                                                          m_2
                                                                                                              (k +
                                                                                                                (1 :
                                                                                                                  Int))
                                                                                                              (next.set
                                                                                                                (Int.toNat
                                                                                                                  (0 :
                                                                                                                    Int))
                                                                                                                (min
                                                                                                                  (x +
                                                                                                                    (1 :
                                                                                                                      Int))
                                                                                                                  (most +
                                                                                                                    (1 :
                                                                                                                      Int)))) <
                                                                                                            m_2 k
                                                                                                              next) ∧
                                                                                            (¬k = (0 : Int) →
                                                                                              inI64 (k - (1 : Int)) ∧
                                                                                                (0 : Int) ≤
                                                                                                    k - (1 : Int) ∧
                                                                                                  k - (1 : Int) <
                                                                                                      (↑row.length :
                                                                                                        Int) ∧
                                                                                                    (0 : Int) ≤ x ∧
                                                                                                      x <
                                                                                                          (↑a.length :
                                                                                                            Int) ∧
                                                                                                        inI64
                                                                                                            (k -
                                                                                                              (1 :
                                                                                                                Int)) ∧
                                                                                                          (0 : Int) ≤
                                                                                                              k -
                                                                                                                (1 :
                                                                                                                  Int) ∧
                                                                                                            k -
                                                                                                                  (1 :
                                                                                                                    Int) <
                                                                                                                (↑b.length :
                                                                                                                  Int) ∧
                                                                                                              (gt a x ≠
                                                                                                                    gt b
                                                                                                                      (k -
                                                                                                                        (1 :
                                                                                                                          Int)) →
                                                                                                                  inI64
                                                                                                                    (gt
                                                                                                                        row
                                                                                                                        (k -
                                                                                                                          (1 :
                                                                                                                            Int)) +
                                                                                                                      (1 :
                                                                                                                        Int))) ∧
                                                                                                                inI64
                                                                                                                    (k -
                                                                                                                      (1 :
                                                                                                                        Int)) ∧
                                                                                                                  (0 :
                                                                                                                        Int) ≤
                                                                                                                      k -
                                                                                                                        (1 :
                                                                                                                          Int) ∧
                                                                                                                    k -
                                                                                                                          (1 :
                                                                                                                            Int) <
                                                                                                                        (↑next.length :
                                                                                                                          Int) ∧
                                                                                                                      inI64
                                                                                                                          (gt
                                                                                                                              next
                                                                                                                              (k -
                                                                                                                                (1 :
                                                                                                                                  Int)) +
                                                                                                                            (1 :
                                                                                                                              Int)) ∧
                                                                                                                        (0 :
                                                                                                                              Int) ≤
                                                                                                                            k ∧
                                                                                                                          k <
                                                                                                                              (↑row.length :
                                                                                                                                Int) ∧
                                                                                                                            inI64
                                                                                                                                (gt
                                                                                                                                    row
                                                                                                                                    k +
                                                                                                                                  (1 :
                                                                                                                                    Int)) ∧
                                                                                                                              (0 :
                                                                                                                                    Int) ≤
                                                                                                                                  k ∧
                                                                                                                                k <
                                                                                                                                    (↑next.length :
                                                                                                                                      Int) ∧
                                                                                                                                  inI64
                                                                                                                                      (k +
                                                                                                                                        (1 :
                                                                                                                                          Int)) ∧
                                                                                                                                    row =
                                                                                                                                        row ∧
                                                                                                                                      I_2
                                                                                                                                          (k +
                                                                                                                                            (1 :
                                                                                                                                              Int))
                                                                                                                                          (next.set
                                                                                                                                            k.toNat
                                                                                                                                            (min
                                                                                                                                              (min
                                                                                                                                                (min
                                                                                                                                                  (iteP
                                                                                                                                                    (gt
                                                                                                                                                        a
                                                                                                                                                        x ≠
                                                                                                                                                      gt
                                                                                                                                                        b
                                                                                                                                                        (k -
                                                                                                                                                          (1 :
                                                                                                                                                            Int)))
                                                                                                                                                    (gt
                                                                                                                                                        row
                                                                                                                                                        (k -
                                                                                                                                                          (1 :
                                                                                                                                                            Int)) +
                                                                                                                                                      (1 :
                                                                                                                                                        Int))
                                                                                                                                                    (gt
                                                                                                                                                      row
                                                                                                                                                      (k -
                                                                                                                                                        (1 :
                                                                                                                                                          Int))))
                                                                                                                                                  (gt
                                                                                                                                                      next
                                                                                                                                                      (k -
                                                                                                                                                        (1 :
                                                                                                                                                          Int)) +
                                                                                                                                                    (1 :
                                                                                                                                                      Int)))
                                                                                                                                                (gt
                                                                                                                                                    row
                                                                                                                                                    k +
                                                                                                                                                  (1 :
                                                                                                                                                    Int)))
                                                                                                                                              (most +
                                                                                                                                                (1 :
                                                                                                                                                  Int)))) ∧
                                                                                                                                        m_2
                                                                                                                                            (k +
                                                                                                                                              (1 :
                                                                                                                                                Int))
                                                                                                                                            (next.set
                                                                                                                                              k.toNat
                                                                                                                                              (min
                                                                                                                                                (min
                                                                                                                                                  (min
                                                                                                                                                    (iteP
                                                                                                                                                      (gt
                                                                                                                                                          a
                                                                                                                                                          x ≠
                                                                                                                                                        gt
                                                                                                                                                          b
                                                                                                                                                          (k -
                                                                                                                                                            (1 :
                                                                                                                                                              Int)))
                                                                                                                                                      (gt
                                                                                                                                                          row
                                                                                                                                                          (k -
                                                                                                                                                            (1 :
                                                                                                                                                              Int)) +
                                                                                                                                                        (1 :
                                                                                                                                                          Int))
                                                                                                                                                      (gt
                                                                                                                                                        row
                                                                                                                                                        (k -
                                                                                                                                                          (1 :
                                                                                                                                                            Int))))
                                                                                                                                                    (gt
                                                                                                                                                        next
                                                                                                                                                        (k -
                                                                                                                                                          (1 :
                                                                                                                                                            Int)) +
                                                                                                                                                      (1 :
                                                                                                                                                        Int)))
                                                                                                                                                  (gt
                                                                                                                                                      row
                                                                                                                                                      k +
                                                                                                                                                    (1 :
                                                                                                                                                      Int)))
                                                                                                                                                (most +
                                                                                                                                                  (1 :
                                                                                                                                                    Int)))) <
                                                                                                                                          m_2
                                                                                                                                            k
                                                                                                                                            next)) ∧
                                                                                        (¬k ≤
                                                                                              min (↑b.length : Int)
                                                                                                (x + (1 : Int) + most) →
                                                                                          inI64 (x + (1 : Int)) ∧
                                                                                            I (x + (1 : Int)) next ∧
                                                                                              m (x + (1 : Int)) next <
                                                                                                m x row))) ∧
                                            (¬x < (↑a.length : Int) →
                                              (0 : Int) ≤ (↑b.length : Int) ∧
                                                (↑b.length : Int) < (↑row.length : Int) ∧
                                                  bo (gt row (↑b.length : Int) ≤ most) = nearOf a b most)))) :
    Con Try.prog f_fuzzy_band fuzzy_band_ct := ⟨fuzzy_band_ok.able, fun x hx =>
  con_eq hC (L := []) (trivial) fuzzy_band_ok (ct := fuzzy_band_ct) (depth := 0) (by kernel_rfl) x (H (@id (List UInt8 × List UInt8 × Int) x).1 (@id (List UInt8 × List UInt8 × Int) x).2.1 (@id (List UInt8 × List UInt8 × Int) x).2.2 (mpr' hx (by kernel_rfl))) (by kernel_rfl)⟩

theorem fuzzy_Near_vc (hC : Cons Try.prog [(f_fuzzy_long, fuzzy_long_ct), (f_fuzzy_band, fuzzy_band_ct)])
    (H : ∀ (a : List UInt8) (b : List UInt8) (most : Int), (True) →
  wordsPre [a, b] ∧
  (longOf [a, b] = true → false = (fuzzyNear a b most).fst ∧ 1 = (fuzzyNear a b most).snd) ∧
    (¬longOf [a, b] = true →
      (most < 0 ∨ 20 < most → false = (fuzzyNear a b most).fst ∧ 2 = (fuzzyNear a b most).snd) ∧
        (¬(most < 0 ∨ 20 < most) →
          (wordPre a ∧ wordPre b ∧ mostPre most) ∧
            nearOf a b most = (fuzzyNear a b most).fst ∧ 0 = (fuzzyNear a b most).snd))) :
    Con Try.prog f_fuzzy_Near fuzzy_Near_ct := ⟨fuzzy_Near_ok.able, fun x hx =>
  con_eq hC (L := []) (trivial) fuzzy_Near_ok (ct := fuzzy_Near_ct) (depth := 0) (by kernel_rfl) x (H (@id (List UInt8 × List UInt8 × Int) x).1 (@id (List UInt8 × List UInt8 × Int) x).2.1 (@id (List UInt8 × List UInt8 × Int) x).2.2 (mpr' hx (by kernel_rfl))) (by kernel_rfl)⟩

theorem ref_farOf_vc (hC : Cons Try.prog [])
    (H : ∀ (a : List UInt8) (b : List UInt8), (wordPre a ∧ wordPre b) →
  inI64 ((↑a.length : Int) + 1) ∧
  (↑a.length : Int) + 1 = (↑a.length : Int) + 1 ∧
    0 ≤ (↑a.length : Int) + 1 ∧
      24 * ((↑a.length : Int) + 1).toNat ≤ 140737488355328 ∧
        ∃ (I : Int → List (List Int) → Prop),
          ∃ (m : Int → List (List Int) → Nat),
            I 0 (List.replicate ((↑a.length : Int) + 1).toNat (noRow Int)) ∧
              ∀ (x : Int) (t : List (List Int)),
                I x t →
                  (x < (↑(List.replicate ((↑a.length : Int) + 1).toNat (noRow Int)).length : Int) →
                      inI64 ((↑b.length : Int) + 1) ∧
                        (↑b.length : Int) + 1 = (↑b.length : Int) + 1 ∧
                          0 ≤ (↑b.length : Int) + 1 ∧
                            8 * ((↑b.length : Int) + 1).toNat ≤ 140737488355328 ∧
                              0 ≤ x ∧
                                x < (↑t.length : Int) ∧
                                  0 ≤ x ∧
                                    x <
                                        (↑(t.set x.toNat (List.replicate ((↑b.length : Int) + 1).toNat 0)).length :
                                          Int) ∧
                                      ∃ (I_1 : Int → List (List Int) → Prop),
                                        ∃ (m_1 : Int → List (List Int) → Nat),
                                          I_1 0 (t.set x.toNat (List.replicate ((↑b.length : Int) + 1).toNat 0)) ∧
                                            ∀ (x_1 : Int) (t_1 : List (List Int)),
                                              I_1 x_1 t_1 →
                                                (x_1 <
                                                      (↑(gt
                                                              (t.set x.toNat
                                                                (List.replicate ((↑b.length : Int) + 1).toNat 0))
                                                              x).length :
                                                        Int) →
                                                    (x = 0 →
                                                        0 ≤ x ∧
                                                          x < (↑t_1.length : Int) ∧
                                                            0 ≤ x_1 ∧
                                                              x_1 < (↑(gt t_1 x).length : Int) ∧
                                                                inI64 (x_1 + 1) ∧
                                                                  I_1 (x_1 + 1)
                                                                      (t_1.set x.toNat ((gt t_1 x).set x_1.toNat x_1)) ∧
                                                                    m_1 (x_1 + 1)
                                                                        (t_1.set x.toNat
                                                                          ((gt t_1 x).set x_1.toNat x_1)) <
                                                                      m_1 x_1 t_1) ∧
                                                      (¬x = 0 →
                                                        (x_1 = 0 →
                                                            0 ≤ x ∧
                                                              x < (↑t_1.length : Int) ∧
                                                                0 ≤ x_1 ∧
                                                                  x_1 < (↑(gt t_1 x).length : Int) ∧
                                                                    inI64 (x_1 + 1) ∧
                                                                      I_1 (x_1 + 1)
                                                                          (t_1.set x.toNat
                                                                            ((gt t_1 x).set x_1.toNat x)) ∧
                                                                        m_1 (x_1 + 1)
                                                                            (t_1.set x.toNat
                                                                              ((gt t_1 x).set x_1.toNat x)) <
                                                                          m_1 x_1 t_1) ∧
                                                          (¬x_1 = 0 →
                                                            inI64 (x - 1) ∧
                                                              0 ≤ x - 1 ∧
                                                                x - 1 < (↑a.length : Int) ∧
                                                                  inI64 (x_1 - 1) ∧
                                                                    0 ≤ x_1 - 1 ∧
                                                                      x_1 - 1 < (↑b.length : Int) ∧
                                                                        (gt a (x - 1) = gt b (x_1 - 1) →
                                                                            0 ≤ x ∧
                                                                              x < (↑t_1.length : Int) ∧
                                                                                inI64 (x - 1) ∧
                                                                                  0 ≤ x - 1 ∧
                                                                                    x - 1 < (↑t_1.length : Int) ∧
                                                                                      inI64 (x_1 - 1) ∧
                                                                                        0 ≤ x_1 - 1 ∧
                                                                                          x_1 - 1 <
                                                                                              (↑(gt t_1
                                                                                                      (x - 1)).length :
                                                                                                Int) ∧
                                                                                            0 ≤ x_1 ∧
                                                                                              x_1 <
                                                                                                  (↑(gt t_1 x).length :
                                                                                                    Int) ∧
                                                                                                inI64 (x_1 + 1) ∧
                                                                                                  I_1 (x_1 + 1)
                                                                                                      (t_1.set x.toNat
                                                                                                        ((gt t_1 x).set
                                                                                                          x_1.toNat
                                                                                                          (gt
                                                                                                            (gt t_1
                                                                                                              (x - 1))
                                                                                                            (x_1 -
                                                                                                              1)))) ∧
                                                                                                    m_1 (x_1 + 1)
                                                                                                        (t_1.set x.toNat
                                                                                                          ((gt t_1
                                                                                                                x).set
                                                                                                            x_1.toNat
                                                                                                            (gt
                                                                                                              (gt t_1
                                                                                                                (x - 1))
                                                                                                              (x_1 -
                                                                                                                1)))) <
                                                                                                      m_1 x_1 t_1) ∧
                                                                          (¬gt a (x - 1) = gt b (x_1 - 1) →
                                                                            0 ≤ x ∧
                                                                              x < (↑t_1.length : Int) ∧
                                                                                inI64 (x - 1) ∧
                                                                                  0 ≤ x - 1 ∧
                                                                                    x - 1 < (↑t_1.length : Int) ∧
                                                                                      inI64 (x_1 - 1) ∧
                                                                                        0 ≤ x_1 - 1 ∧
                                                                                          x_1 - 1 <
                                                                                              (↑(gt t_1
                                                                                                      (x - 1)).length :
                                                                                                Int) ∧
                                                                                            inI64 (x - 1) ∧
                                                                                              0 ≤ x - 1 ∧
                                                                                                x - 1 <
                                                                                                    (↑t_1.length :
                                                                                                      Int) ∧
                                                                                                  0 ≤ x_1 ∧
                                                                                                    x_1 <
                                                                                                        (↑(gt t_1
                                                                                                                (x -
                                                                                                                  1)).length :
                                                                                                          Int) ∧
                                                                                                      0 ≤ x ∧
                                                                                                        x <
                                                                                                            (↑t_1.length :
                                                                                                              Int) ∧
                                                                                                          inI64
                                                                                                              (x_1 -
                                                                                                                1) ∧
                                                                                                            0 ≤
                                                                                                                x_1 -
                                                                                                                  1 ∧
                                                                                                              x_1 - 1 <
                                                                                                                  (↑(gt
                                                                                                                          t_1
                                                                                                                          x).length :
                                                                                                                    Int) ∧
                                                                                                                inI64
                                                                                                                    (1 +
                                                                                                                      min
                                                                                                                        (min
                                                                                                                          (gt
                                                                                                                            (gt
                                                                                                                              t_1
                                                                                                                              (x -
                                                                                                                                1))
                                                                                                                            (x_1 -
                                                                                                                              1))
                                                                                                                          (gt
                                                                                                                            (gt
                                                                                                                              t_1
                                                                                                                              (x -
                                                                                                                                1))
                                                                                                                            x_1))
                                                                                                                        (gt
                                                                                                                          (gt
                                                                                                                            t_1
                                                                                                                            x)
                                                                                                                          (x_1 -
                                                                                                                            1))) ∧
                                                                                                                  0 ≤
                                                                                                                      x_1 ∧
                                                                                                                    x_1 <
                                                                                                                        (↑(gt
                                                                                                                                t_1
                                                                                                                                x).length :
                                                                                                                          Int) ∧
                                                                                                                      inI64
                                                                                                                          (x_1 +
                                                                                                                            1) ∧
                                                                                                                        I_1
                                                                                                                            (x_1 +
                                                                                                                              1)
                                                                                                                            (t_1.set
                                                                                                                              x.toNat
                                                                                                                              ((gt
                                                                                                                                    t_1
                                                                                                                                    x).set
                                                                                                                                x_1.toNat
                                                                                                                                (1 +
                                                                                                                                  min
                                                                                                                                    (min
                                                                                                                                      (gt
                                                                                                                                        (gt
                                                                                                                                          t_1
                                                                                                                                          (x -
                                                                                                                                            1))
                                                                                                                                        (x_1 -
                                                                                                                                          1))
                                                                                                                                      (gt
                                                                                                                                        (gt
                                                                                                                                          t_1
                                                                                                                                          (x -
                                                                                                                                            1))
                                                                                                                                        x_1))
                                                                                                                                    (gt
                                                                                                                                      (gt
                                                                                                                                        t_1
                                                                                                                                        x)
                                                                                                                                      (x_1 -
                                                                                                                                        1))))) ∧
                                                                                                                          m_1
                                                                                                                              (x_1 +
                                                                                                                                1)
                                                                                                                              (t_1.set
                                                                                                                                x.toNat
                                                                                                                                ((gt
                                                                                                                                      t_1
                                                                                                                                      x).set
                                                                                                                                  x_1.toNat
                                                                                                                                  (1 +
                                                                                                                                    min
                                                                                                                                      (min
                                                                                                                                        (gt
                                                                                                                                          (gt
                                                                                                                                            t_1
                                                                                                                                            (x -
                                                                                                                                              1))
                                                                                                                                          (x_1 -
                                                                                                                                            1))
                                                                                                                                        (gt
                                                                                                                                          (gt
                                                                                                                                            t_1
                                                                                                                                            (x -
                                                                                                                                              1))
                                                                                                                                          x_1))
                                                                                                                                      (gt
                                                                                                                                        (gt
                                                                                                                                          t_1
                                                                                                                                          x)
                                                                                                                                        (x_1 -
                                                                                                                                          1))))) <
                                                                                                                            m_1
                                                                                                                              x_1
                                                                                                                              t_1)))) ∧
                                                  (¬x_1 <
                                                        (↑(gt
                                                                (t.set x.toNat
                                                                  (List.replicate ((↑b.length : Int) + 1).toNat 0))
                                                                x).length :
                                                          Int) →
                                                    inI64 (x + 1) ∧ I (x + 1) t_1 ∧ m (x + 1) t_1 < m x t)) ∧
                    (¬x < (↑(List.replicate ((↑a.length : Int) + 1).toNat (noRow Int)).length : Int) →
                      0 ≤ (↑a.length : Int) ∧
                        (↑a.length : Int) < (↑t.length : Int) ∧
                          0 ≤ (↑b.length : Int) ∧
                            (↑b.length : Int) < (↑(gt t (↑a.length : Int)).length : Int) ∧
                              gt (gt t (↑a.length : Int)) (↑b.length : Int) = farOf a b)) :
    Con Try.prog f_ref_farOf ref_farOf_ct := ⟨ref_farOf_ok.able, fun x hx =>
  con_eq hC (L := []) (trivial) ref_farOf_ok (ct := ref_farOf_ct) (depth := 0) (by kernel_rfl) x (H (@id (List UInt8 × List UInt8) x).1 (@id (List UInt8 × List UInt8) x).2 (mpr' hx (by kernel_rfl))) (by kernel_rfl)⟩

theorem ref_FuzzyFar_vc (hC : Cons Try.prog [(f_ref_farOf, ref_farOf_ct)])
    (H : ∀ (a : List UInt8) (b : List UInt8), (True) →
  (20 < (↑a.length : Int) ∨ 20 < (↑b.length : Int) → 0 = (fuzzyFar a b).fst ∧ 1 = (fuzzyFar a b).snd) ∧
  (¬(20 < (↑a.length : Int) ∨ 20 < (↑b.length : Int)) →
    (wordPre a ∧ wordPre b) ∧ farOf a b = (fuzzyFar a b).fst ∧ 0 = (fuzzyFar a b).snd)) :
    Con Try.prog f_ref_FuzzyFar ref_FuzzyFar_ct := ⟨ref_FuzzyFar_ok.able, fun x hx =>
  con_eq hC (L := []) (trivial) ref_FuzzyFar_ok (ct := ref_FuzzyFar_ct) (depth := 0) (by kernel_rfl) x (H (@id (List UInt8 × List UInt8) x).1 (@id (List UInt8 × List UInt8) x).2 (mpr' hx (by kernel_rfl))) (by kernel_rfl)⟩

theorem ref_FuzzyNear_vc (hC : Cons Try.prog [(f_ref_FuzzyFar, ref_FuzzyFar_ct)])
    (H : ∀ (a : List UInt8) (b : List UInt8) (most : Int), (True) →
  True ∧
  ((fuzzyFar a b).snd ≠ 0 → false = (fuzzyNear a b most).fst ∧ (fuzzyFar a b).snd = (fuzzyNear a b most).snd) ∧
    (¬(fuzzyFar a b).snd ≠ 0 →
      (most < 0 ∨ 20 < most → false = (fuzzyNear a b most).fst ∧ 2 = (fuzzyNear a b most).snd) ∧
        (¬(most < 0 ∨ 20 < most) →
          bo ((fuzzyFar a b).fst ≤ most) = (fuzzyNear a b most).fst ∧ 0 = (fuzzyNear a b most).snd))) :
    Con Try.prog f_ref_FuzzyNear ref_FuzzyNear_ct := ⟨ref_FuzzyNear_ok.able, fun x hx =>
  con_eq hC (L := []) (trivial) ref_FuzzyNear_ok (ct := ref_FuzzyNear_ct) (depth := 0) (by kernel_rfl) x (H (@id (List UInt8 × List UInt8 × Int) x).1 (@id (List UInt8 × List UInt8 × Int) x).2.1 (@id (List UInt8 × List UInt8 × Int) x).2.2 (mpr' hx (by kernel_rfl))) (by kernel_rfl)⟩

theorem law_FuzzyNears_vc (hC : Cons Try.prog [(f_fuzzy_Near, fuzzy_Near_ct), (f_ref_FuzzyNear, ref_FuzzyNear_ct)])
    (H : ∀ (a : List UInt8) (b : List UInt8) (most : Int), (a.length.le 140737488351232 ∧ b.length.le 140737488351232 ∧ IntKind.i64.min ≤ most ∧ most ≤ IntKind.i64.max) →
  True ∧
  True ∧
    bo
        (((fuzzyNear a b most).fst = true ↔ (fuzzyNear a b most).fst = true) ∧
          (fuzzyNear a b most).snd = (fuzzyNear a b most).snd) =
      true) :
    Con Try.prog f_law_FuzzyNears law_FuzzyNears_ct := ⟨law_FuzzyNears_ok.able, fun x hx =>
  con_eq hC (L := []) (trivial) law_FuzzyNears_ok (ct := law_FuzzyNears_ct) (depth := 0) (by kernel_rfl) x (H (@id (List UInt8 × List UInt8 × Int) x).1 (@id (List UInt8 × List UInt8 × Int) x).2.1 (@id (List UInt8 × List UInt8 × Int) x).2.2 (mpr' hx (by kernel_rfl))) (by kernel_rfl)⟩

end Go.Proofs.Ytigcaalfadoiaaa
