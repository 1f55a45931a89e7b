/- The typed conditions of the functions, printed by a program of the claim's author; each gives the contract of its function. Conditions: none. -/
import Derived.Test.YtigcaalfadoiaaaGLogSaves
import Derived.Test.YtigcaalfadoiaaaVpA
import Derived.Test.YtigcaalfadoiaaaVpB
import Derived.Test.YtigcaalfadoiaaaVpC
import Derived.Test.YtigcaalfadoiaaaVpE
import Derived.Test.YtigcaalfadoiaaaVpU
import Derived.Test.YtigcaalfadoiaaaVpV
import Derived.Test.YtigcaalfadoiaaaVpW
import Derived.Test.YtigcaalfadoiaaaBase
set_option linter.unusedVariables false
set_option linter.unusedSimpArgs false
set_option maxRecDepth 100000
namespace Go.Proofs.Ytigcaalfadoiaaa
open Go.Vc Go.Fu

theorem log_fault_vc (hC : Cons Try.prog [])
    (H : ∀ (s : List UInt8) (l : List (Int × Int × Int × List UInt8)), (True) →
  (600 < (↑s.length : Int) ∨ 80 < (↑l.length : Int) → 1 = logFault s l) ∧
  (¬(600 < (↑s.length : Int) ∨ 80 < (↑l.length : Int)) →
    ∃ (I : Int → Prop),
      ∃ (m : Int → Nat),
        I 0 ∧
          ∀ (x : Int),
            I x →
              (x < (↑l.length : Int) →
                  0 ≤ x ∧
                    x < (↑l.length : Int) ∧
                      (600 < (↑(gt l x).snd.snd.snd.length : Int) → 1 = logFault s l) ∧
                        (¬600 < (↑(gt l x).snd.snd.snd.length : Int) → inI64 (x + 1) ∧ I (x + 1) ∧ m (x + 1) < m x)) ∧
                (¬x < (↑l.length : Int) →
                  ∃ (I : Int → Prop),
                    ∃ (m : Int → Nat),
                      I 0 ∧
                        ∀ (x : Int),
                          I x →
                            (x < (↑l.length : Int) →
                                0 ≤ x ∧
                                  x < (↑l.length : Int) ∧
                                    ((gt l x).fst < 1 ∨ 4 < (gt l x).fst → 3 = logFault s l) ∧
                                      (¬((gt l x).fst < 1 ∨ 4 < (gt l x).fst) →
                                        ((gt l x).fst ≠ 1 ∧
                                              ¬((gt l x).snd.fst = 0 ∧
                                                  (gt l x).snd.snd.fst = 0 ∧ (gt l x).snd.snd.snd = []) →
                                            4 = logFault s l) ∧
                                          (¬((gt l x).fst ≠ 1 ∧
                                                ¬((gt l x).snd.fst = 0 ∧
                                                    (gt l x).snd.snd.fst = 0 ∧ (gt l x).snd.snd.snd = [])) →
                                            (¬¬(0 ≤ (gt l x).snd.fst ∧ (gt l x).snd.fst ≤ 600) →
                                                (¬(0 ≤ (gt l x).snd.fst ∧ (gt l x).snd.fst ≤ 600) ∨
                                                      ¬(0 ≤ (gt l x).snd.snd.fst ∧ (gt l x).snd.snd.fst ≤ 600) →
                                                    2 = logFault s l) ∧
                                                  (¬(¬(0 ≤ (gt l x).snd.fst ∧ (gt l x).snd.fst ≤ 600) ∨
                                                        ¬(0 ≤ (gt l x).snd.snd.fst ∧ (gt l x).snd.snd.fst ≤ 600)) →
                                                    inI64 (x + 1) ∧ I (x + 1) ∧ m (x + 1) < m x)) ∧
                                              (¬¬¬(0 ≤ (gt l x).snd.fst ∧ (gt l x).snd.fst ≤ 600) →
                                                2 = logFault s l)))) ∧
                              (¬x < (↑l.length : Int) → 0 = logFault s l)))) :
    Con Try.prog f_log_fault log_fault_ct := ⟨log_fault_ok.able, fun x hx =>
  con_eq hC (L := [(f_log_fits, log_fits_fi)]) (⟨log_fits_ok, trivial⟩) log_fault_ok (ct := log_fault_ct) (depth := 3) rfl (by kernel_rfl) x (H (@id (List UInt8 × (List (Int × Int × Int × List UInt8))) x).1 (@id (List UInt8 × (List (Int × Int × Int × List UInt8))) x).2 (mpr' hx (by kernel_rfl))) (by kernel_rfl)⟩

theorem poly_Of_vc (hC : Cons Try.prog [])
    (H : ∀ (text : List UInt8), (fitS text) →
  ∃ (I : Int → Int → Int → Prop),
  ∃ (m : Int → Int → Int → Nat),
    ((0 : Int) = (0 : Int) ∧ (0 : Int) = (0 : Int) ∧ I (0 : Int) (0 : Int) (1 : Int)) ∧
      ∀ (x h h_1 : Int),
        I x h h_1 →
          (x < (↑text.length : Int) →
              inI64 (h * (257 : Int)) ∧
                (0 : Int) ≤ x ∧
                  x < (↑text.length : Int) ∧
                    inI64 (h * (257 : Int) + (↑(gt text x).toNat : Int)) ∧
                      inI64 (h * (257 : Int) + (↑(gt text x).toNat : Int) + (1 : Int)) ∧
                        (2147483647 : Int) ≠ (0 : Int) ∧
                          inI64 (h_1 * (257 : Int)) ∧
                            (2147483647 : Int) ≠ (0 : Int) ∧
                              inI64 (x + (1 : Int)) ∧
                                (0 : Int) = (0 : Int) ∧
                                  (0 : Int) = (0 : Int) ∧
                                    I (x + (1 : Int))
                                        ((h * (257 : Int) + (↑(gt text x).toNat : Int) + (1 : Int)).tmod
                                          (2147483647 : Int))
                                        ((h_1 * (257 : Int)).tmod (2147483647 : Int)) ∧
                                      m (x + (1 : Int))
                                          ((h * (257 : Int) + (↑(gt text x).toNat : Int) + (1 : Int)).tmod
                                            (2147483647 : Int))
                                          ((h_1 * (257 : Int)).tmod (2147483647 : Int)) <
                                        m x h h_1) ∧
            (¬x < (↑text.length : Int) → (h, h_1) = polyOf text)) :
    Con Try.prog f_poly_Of poly_Of_ct := ⟨poly_Of_ok.able, fun x hx =>
  con_eq hC (L := []) (trivial) poly_Of_ok (ct := poly_Of_ct) (depth := 0) rfl (by kernel_rfl) x (H (@id (List UInt8) x) (mpr' hx (by kernel_rfl))) (by kernel_rfl)⟩

theorem log_Save_vc (hC : Cons Try.prog [(f_log_fault, log_fault_ct), (f_poly_Of, poly_Of_ct)])
    (H : ∀ (s : List UInt8) (l : List (Int × Int × Int × List UInt8)), (True) →
  True ∧
  (logFault s l ≠ (0 : Int) → [] = (logSave s l).fst ∧ logFault s l = (logSave s l).snd) ∧
    (¬logFault s l ≠ (0 : Int) →
      (0 : Nat) < (4 : Nat) ∧
        (0 : Int) ≤ (8 : Int) ∧
          ((4 : Nat) + (2 : Nat)) * (1 : Nat) ≤ (140737488355328 : Nat) ∧
            (([(70 : Int), (85 : Int), (83 : Int), (49 : Int)] ++
                        [IntKind.u8.wrap
                            ((↑s.length : Int).fdiv ((2 : Int) ^ min (Int.toNat (8 : Int)) IntKind.i64.bits)),
                          IntKind.u8.wrap (↑s.length : Int)]).length +
                    (List.map (fun (c : UInt8) => (↑c.toNat : Int)) s).length) *
                  (1 : Nat) ≤
                (140737488355328 : Nat) ∧
              (0 : Int) ≤ (8 : Int) ∧
                (([(70 : Int), (85 : Int), (83 : Int), (49 : Int)] ++
                              [IntKind.u8.wrap
                                  ((↑s.length : Int).fdiv ((2 : Int) ^ min (Int.toNat (8 : Int)) IntKind.i64.bits)),
                                IntKind.u8.wrap (↑s.length : Int)] ++
                            List.map (fun (c : UInt8) => (↑c.toNat : Int)) s).length +
                        (2 : Nat)) *
                      (1 : Nat) ≤
                    (140737488355328 : Nat) ∧
                  ∃ (I : Int → List Int → Prop),
                    ∃ (m : Int → List Int → Nat),
                      I (0 : Int)
                          ([(70 : Int), (85 : Int), (83 : Int), (49 : Int)] ++
                                [IntKind.u8.wrap
                                    ((↑s.length : Int).fdiv ((2 : Int) ^ min (Int.toNat (8 : Int)) IntKind.i64.bits)),
                                  IntKind.u8.wrap (↑s.length : Int)] ++
                              List.map (fun (c : UInt8) => (↑c.toNat : Int)) s ++
                            [IntKind.u8.wrap
                                ((↑l.length : Int).fdiv ((2 : Int) ^ min (Int.toNat (8 : Int)) IntKind.i64.bits)),
                              IntKind.u8.wrap (↑l.length : Int)]) ∧
                        ∀ (x : Int) (b : List Int),
                          I x b →
                            (x < (↑l.length : Int) →
                                (0 : Int) ≤ x ∧
                                  x < (↑l.length : Int) ∧
                                    (b.length + (1 : Nat)) * (1 : Nat) ≤ (140737488355328 : Nat) ∧
                                      ((gt l x).fst = (1 : Int) →
                                          (0 : Int) ≤ (8 : Int) ∧
                                            ((b ++ [IntKind.u8.wrap (gt l x).fst]).length + (2 : Nat)) * (1 : Nat) ≤
                                                (140737488355328 : Nat) ∧
                                              (gt l x).snd.snd.fst = (gt l x).snd.snd.fst ∧
                                                (gt l x).snd.snd.snd = (gt l x).snd.snd.snd ∧
                                                  (0 : Int) ≤ (8 : Int) ∧
                                                    ((b ++ [IntKind.u8.wrap (gt l x).fst] ++
                                                                [IntKind.u8.wrap
                                                                    ((gt l x).snd.fst.fdiv
                                                                      ((2 : Int) ^
                                                                        min (Int.toNat (8 : Int)) IntKind.i64.bits)),
                                                                  IntKind.u8.wrap (gt l x).snd.fst]).length +
                                                            (2 : Nat)) *
                                                          (1 : Nat) ≤
                                                        (140737488355328 : Nat) ∧
                                                      (gt l x).snd.snd.snd = (gt l x).snd.snd.snd ∧
                                                        (0 : Int) ≤ (8 : Int) ∧
                                                          ((b ++ [IntKind.u8.wrap (gt l x).fst] ++
                                                                        [IntKind.u8.wrap
                                                                            ((gt l x).snd.fst.fdiv
                                                                              ((2 : Int) ^
                                                                                min (Int.toNat (8 : Int))
                                                                                  IntKind.i64.bits)),
                                                                          IntKind.u8.wrap (gt l x).snd.fst] ++
                                                                      [IntKind.u8.wrap
                                                                          ((gt l x).snd.snd.fst.fdiv
                                                                            ((2 : Int) ^
                                                                              min (Int.toNat (8 : Int))
                                                                                IntKind.i64.bits)),
                                                                        IntKind.u8.wrap (gt l x).snd.snd.fst]).length +
                                                                  (2 : Nat)) *
                                                                (1 : Nat) ≤
                                                              (140737488355328 : Nat) ∧
                                                            ((b ++ [IntKind.u8.wrap (gt l x).fst] ++
                                                                            [IntKind.u8.wrap
                                                                                ((gt l x).snd.fst.fdiv
                                                                                  ((2 : Int) ^
                                                                                    min (Int.toNat (8 : Int))
                                                                                      IntKind.i64.bits)),
                                                                              IntKind.u8.wrap (gt l x).snd.fst] ++
                                                                          [IntKind.u8.wrap
                                                                              ((gt l x).snd.snd.fst.fdiv
                                                                                ((2 : Int) ^
                                                                                  min (Int.toNat (8 : Int))
                                                                                    IntKind.i64.bits)),
                                                                            IntKind.u8.wrap (gt l x).snd.snd.fst] ++
                                                                        [IntKind.u8.wrap
                                                                            ((↑(gt l x).snd.snd.snd.length : Int).fdiv
                                                                              ((2 : Int) ^
                                                                                min (Int.toNat (8 : Int))
                                                                                  IntKind.i64.bits)),
                                                                          IntKind.u8.wrap
                                                                            (↑(gt l x).snd.snd.snd.length :
                                                                              Int)]).length +
                                                                    (List.map (fun (c : UInt8) => (↑c.toNat : Int))
                                                                        (gt l x).snd.snd.snd).length) *
                                                                  (1 : Nat) ≤
                                                                (140737488355328 : Nat) ∧
                                                              inI64 (x + (1 : Int)) ∧
                                                                I (x + (1 : Int))
                                                                    (b ++ [IntKind.u8.wrap (gt l x).fst] ++
                                                                            [IntKind.u8.wrap
                                                                                ((gt l x).snd.fst.fdiv
                                                                                  ((2 : Int) ^
                                                                                    min (Int.toNat (8 : Int))
                                                                                      IntKind.i64.bits)),
                                                                              IntKind.u8.wrap (gt l x).snd.fst] ++
                                                                          [IntKind.u8.wrap
                                                                              ((gt l x).snd.snd.fst.fdiv
                                                                                ((2 : Int) ^
                                                                                  min (Int.toNat (8 : Int))
                                                                                    IntKind.i64.bits)),
                                                                            IntKind.u8.wrap (gt l x).snd.snd.fst] ++
                                                                        [IntKind.u8.wrap
                                                                            ((↑(gt l x).snd.snd.snd.length : Int).fdiv
                                                                              ((2 : Int) ^
                                                                                min (Int.toNat (8 : Int))
                                                                                  IntKind.i64.bits)),
                                                                          IntKind.u8.wrap
                                                                            (↑(gt l x).snd.snd.snd.length : Int)] ++
                                                                      List.map (fun (c : UInt8) => (↑c.toNat : Int))
                                                                        (gt l x).snd.snd.snd) ∧
                                                                  m (x + (1 : Int))
                                                                      (b ++ [IntKind.u8.wrap (gt l x).fst] ++
                                                                              [IntKind.u8.wrap
                                                                                  ((gt l x).snd.fst.fdiv
                                                                                    ((2 : Int) ^
                                                                                      min (Int.toNat (8 : Int))
                                                                                        IntKind.i64.bits)),
                                                                                IntKind.u8.wrap (gt l x).snd.fst] ++
                                                                            [IntKind.u8.wrap
                                                                                ((gt l x).snd.snd.fst.fdiv
                                                                                  ((2 : Int) ^
                                                                                    min (Int.toNat (8 : Int))
                                                                                      IntKind.i64.bits)),
                                                                              IntKind.u8.wrap (gt l x).snd.snd.fst] ++
                                                                          [IntKind.u8.wrap
                                                                              ((↑(gt l x).snd.snd.snd.length : Int).fdiv
                                                                                ((2 : Int) ^
                                                                                  min (Int.toNat (8 : Int))
                                                                                    IntKind.i64.bits)),
                                                                            IntKind.u8.wrap
                                                                              (↑(gt l x).snd.snd.snd.length : Int)] ++
                                                                        List.map (fun (c : UInt8) => (↑c.toNat : Int))
                                                                          (gt l x).snd.snd.snd) <
                                                                    m x b) ∧
                                        (¬(gt l x).fst = (1 : Int) →
                                          inI64 (x + (1 : Int)) ∧
                                            I (x + (1 : Int)) (b ++ [IntKind.u8.wrap (gt l x).fst]) ∧
                                              m (x + (1 : Int)) (b ++ [IntKind.u8.wrap (gt l x).fst]) < m x b)) ∧
                              (¬x < (↑l.length : Int) →
                                fitS (List.map (fun (n : Int) => UInt8.ofNat n.toNat) b) ∧
                                  (0 : Int) ≤ (24 : Int) ∧
                                    (0 : Int) ≤ (16 : Int) ∧
                                      (0 : Int) ≤ (8 : Int) ∧
                                        (b.length + (4 : Nat)) * (1 : Nat) ≤ (140737488355328 : Nat) ∧
                                          b ++
                                                [IntKind.u8.wrap
                                                    ((polyOf
                                                            (List.map (fun (n : Int) => UInt8.ofNat n.toNat)
                                                              b)).fst.fdiv
                                                      ((2 : Int) ^ min (Int.toNat (24 : Int)) IntKind.i64.bits)),
                                                  IntKind.u8.wrap
                                                    ((polyOf
                                                            (List.map (fun (n : Int) => UInt8.ofNat n.toNat)
                                                              b)).fst.fdiv
                                                      ((2 : Int) ^ min (Int.toNat (16 : Int)) IntKind.i64.bits)),
                                                  IntKind.u8.wrap
                                                    ((polyOf
                                                            (List.map (fun (n : Int) => UInt8.ofNat n.toNat)
                                                              b)).fst.fdiv
                                                      ((2 : Int) ^ min (Int.toNat (8 : Int)) IntKind.i64.bits)),
                                                  IntKind.u8.wrap
                                                    (polyOf (List.map (fun (n : Int) => UInt8.ofNat n.toNat) b)).fst] =
                                              (logSave s l).fst ∧
                                            (0 : Int) = (logSave s l).snd))) :
    Con Try.prog f_log_Save log_Save_ct := ⟨log_Save_ok.able, fun x hx =>
  con_eq hC (L := [(f_log_number, log_number_fi), (f_log_text, log_text_fi)]) (⟨log_number_ok, log_text_ok, trivial⟩) log_Save_ok (ct := log_Save_ct) (depth := 8) rfl (by kernel_rfl) x (H (@id (List UInt8 × (List (Int × Int × Int × List UInt8))) x).1 (@id (List UInt8 × (List (Int × Int × Int × List UInt8))) x).2 (mpr' hx (by kernel_rfl))) (by kernel_rfl)⟩

theorem ref_LogFault_vc (hC : Cons Try.prog [])
    (H : ∀ (s : List UInt8) (l : List (Int × Int × Int × List UInt8)), (True) →
  ((600 : Int) < (↑s.length : Int) ∨ (80 : Int) < (↑l.length : Int) → (1 : Int) = logFault s l) ∧
  (¬((600 : Int) < (↑s.length : Int) ∨ (80 : Int) < (↑l.length : Int)) →
    ∃ (I : Int → Prop),
      ∃ (m : Int → Nat),
        I (0 : Int) ∧
          ∀ (x : Int),
            I x →
              (x < (↑l.length : Int) →
                  (0 : Int) ≤ x ∧
                    x < (↑l.length : Int) ∧
                      ((600 : Int) < (↑(gt l x).snd.snd.snd.length : Int) → (1 : Int) = logFault s l) ∧
                        (¬(600 : Int) < (↑(gt l x).snd.snd.snd.length : Int) →
                          inI64 (x + (1 : Int)) ∧ I (x + (1 : Int)) ∧ m (x + (1 : Int)) < m x)) ∧
                (¬x < (↑l.length : Int) →
                  ∃ (I : Int → Prop),
                    ∃ (m : Int → Nat),
                      ((0 : Int) = (0 : Int) ∧ (0 : Int) = (0 : Int) ∧ noRow UInt8 = noRow UInt8 ∧ I (0 : Int)) ∧
                        ∀ (x : Int),
                          I x →
                            (x < (↑l.length : Int) →
                                (0 : Int) ≤ x ∧
                                  x < (↑l.length : Int) ∧
                                    ((gt l x).fst < (1 : Int) ∨ (4 : Int) < (gt l x).fst → (3 : Int) = logFault s l) ∧
                                      (¬((gt l x).fst < (1 : Int) ∨ (4 : Int) < (gt l x).fst) →
                                        ((gt l x).fst ≠ (1 : Int) ∧
                                              ¬((gt l x).snd.fst = (0 : Int) ∧
                                                  (gt l x).snd.snd.fst = (0 : Int) ∧ (gt l x).snd.snd.snd = []) →
                                            (4 : Int) = logFault s l) ∧
                                          (¬((gt l x).fst ≠ (1 : Int) ∧
                                                ¬((gt l x).snd.fst = (0 : Int) ∧
                                                    (gt l x).snd.snd.fst = (0 : Int) ∧ (gt l x).snd.snd.snd = [])) →
                                            ((((gt l x).snd.fst < (0 : Int) ∨ (600 : Int) < (gt l x).snd.fst) ∨
                                                    (gt l x).snd.snd.fst < (0 : Int)) ∨
                                                  (600 : Int) < (gt l x).snd.snd.fst →
                                                (2 : Int) = logFault s l) ∧
                                              (¬((((gt l x).snd.fst < (0 : Int) ∨ (600 : Int) < (gt l x).snd.fst) ∨
                                                      (gt l x).snd.snd.fst < (0 : Int)) ∨
                                                    (600 : Int) < (gt l x).snd.snd.fst) →
                                                inI64 (x + (1 : Int)) ∧
                                                  (0 : Int) = (0 : Int) ∧
                                                    (0 : Int) = (0 : Int) ∧
                                                      noRow UInt8 = noRow UInt8 ∧
                                                        I (x + (1 : Int)) ∧ m (x + (1 : Int)) < m x)))) ∧
                              (¬x < (↑l.length : Int) → (0 : Int) = logFault s l)))) :
    Con Try.prog f_ref_LogFault ref_LogFault_ct := ⟨ref_LogFault_ok.able, fun x hx =>
  con_eq hC (L := []) (trivial) ref_LogFault_ok (ct := ref_LogFault_ct) (depth := 3) rfl (by kernel_rfl) x (H (@id (List UInt8 × (List (Int × Int × Int × List UInt8))) x).1 (@id (List UInt8 × (List (Int × Int × Int × List UInt8))) x).2 (mpr' hx (by kernel_rfl))) (by kernel_rfl)⟩

theorem ref_PolyOf_vc (hC : Cons Try.prog [])
    (H : ∀ (text : List UInt8), (fitS text) →
  inI64 ((↑text.length : Int) - (1 : Int)) ∧
  ∃ (I : Int → Int → Int → Prop),
    ∃ (m : Int → Int → Int → Nat),
      ((0 : Int) = (0 : Int) ∧ (0 : Int) = (0 : Int) ∧ I (1 : Int) (0 : Int) ((↑text.length : Int) - (1 : Int))) ∧
        ∀ (power sum i : Int),
          I power sum i →
            ((0 : Int) ≤ i →
                (0 : Int) ≤ i ∧
                  i < (↑text.length : Int) ∧
                    inI64 ((↑(gt text i).toNat : Int) + (1 : Int)) ∧
                      inI64 (((↑(gt text i).toNat : Int) + (1 : Int)) * power) ∧
                        inI64 (sum + ((↑(gt text i).toNat : Int) + (1 : Int)) * power) ∧
                          (2147483647 : Int) ≠ (0 : Int) ∧
                            inI64 (power * (257 : Int)) ∧
                              (2147483647 : Int) ≠ (0 : Int) ∧
                                inI64 (i - (1 : Int)) ∧
                                  (0 : Int) = (0 : Int) ∧
                                    (0 : Int) = (0 : Int) ∧
                                      I ((power * (257 : Int)).tmod (2147483647 : Int))
                                          ((sum + ((↑(gt text i).toNat : Int) + (1 : Int)) * power).tmod
                                            (2147483647 : Int))
                                          (i - (1 : Int)) ∧
                                        m ((power * (257 : Int)).tmod (2147483647 : Int))
                                            ((sum + ((↑(gt text i).toNat : Int) + (1 : Int)) * power).tmod
                                              (2147483647 : Int))
                                            (i - (1 : Int)) <
                                          m power sum i) ∧
              (¬(0 : Int) ≤ i → (sum, power) = polyOf text)) :
    Con Try.prog f_ref_PolyOf ref_PolyOf_ct := ⟨ref_PolyOf_ok.able, fun x hx =>
  con_eq hC (L := []) (trivial) ref_PolyOf_ok (ct := ref_PolyOf_ct) (depth := 0) rfl (by kernel_rfl) x (H (@id (List UInt8) x) (mpr' hx (by kernel_rfl))) (by kernel_rfl)⟩

theorem ref_twoBytes_vc (hC : Cons Try.prog [])
    (H : ∀ (n : Int), (0 ≤ n ∧ n ≤ 4611686018427387904) →
  (256 : Int) ≠ (0 : Int) ∧
  inI64 (n.tdiv (256 : Int)) ∧
    (256 : Int) ≠ (0 : Int) ∧
      List.map (fun (n : Int) => UInt8.ofNat n.toNat)
          [IntKind.u8.wrap (n.tdiv (256 : Int)), IntKind.u8.wrap (n.tmod (256 : Int))] =
        num2 n) :
    Con Try.prog f_ref_twoBytes ref_twoBytes_ct := ⟨ref_twoBytes_ok.able, fun x hx =>
  con_eq hC (L := []) (trivial) ref_twoBytes_ok (ct := ref_twoBytes_ct) (depth := 3) rfl (by kernel_rfl) x (H (@id (Int) x) (mpr' hx (by kernel_rfl))) (by kernel_rfl)⟩

theorem ref_LogSaved_vc (hC : Cons Try.prog [(f_ref_LogFault, ref_LogFault_ct), (f_ref_PolyOf, ref_PolyOf_ct), (f_ref_twoBytes, ref_twoBytes_ct)])
    (H : ∀ (s : List UInt8) (l : List (Int × Int × Int × List UInt8)), (True) →
  True ∧
  (logFault s l ≠ (0 : Int) → [] = (logSave s l).fst ∧ logFault s l = (logSave s l).snd) ∧
    (¬logFault s l ≠ (0 : Int) →
      ((0 : Int) ≤ (↑s.length : Int) ∧ (↑s.length : Int) ≤ (4611686018427387904 : Int)) ∧
        inI64 ((↑(4 : Nat) : Int) + (↑(List.length (num2 (↑s.length : Int))) : Int)) ∧
          inI64
              ((↑([(70 : UInt8), (85 : UInt8), (83 : UInt8), (49 : UInt8)] ++ num2 (↑s.length : Int)).length : Int) +
                (↑s.length : Int)) ∧
            ((0 : Int) ≤ (↑l.length : Int) ∧ (↑l.length : Int) ≤ (4611686018427387904 : Int)) ∧
              inI64
                  ((↑([(70 : UInt8), (85 : UInt8), (83 : UInt8), (49 : UInt8)] ++ num2 (↑s.length : Int) ++ s).length :
                      Int) +
                    (↑(List.length (num2 (↑l.length : Int))) : Int)) ∧
                ∃ (I : List UInt8 → Int → Prop),
                  ∃ (m : List UInt8 → Int → Nat),
                    I
                        ([(70 : UInt8), (85 : UInt8), (83 : UInt8), (49 : UInt8)] ++ num2 (↑s.length : Int) ++ s ++
                          num2 (↑l.length : Int))
                        (0 : Int) ∧
                      ∀ (out : List UInt8) (x : Int),
                        I out x →
                          (x < (↑l.length : Int) →
                              (0 : Int) ≤ x ∧
                                x < (↑l.length : Int) ∧
                                  inI64
                                      ((↑out.length : Int) +
                                        (↑(List.map (fun (n : Int) => UInt8.ofNat n.toNat)
                                                [IntKind.u8.wrap (gt l x).fst]).length :
                                          Int)) ∧
                                    ((gt l x).fst = (1 : Int) →
                                        ((0 : Int) ≤ (gt l x).snd.fst ∧
                                            (gt l x).snd.fst ≤ (4611686018427387904 : Int)) ∧
                                          ((0 : Int) ≤ (gt l x).snd.snd.fst ∧
                                              (gt l x).snd.snd.fst ≤ (4611686018427387904 : Int)) ∧
                                            inI64
                                                ((↑(List.length (num2 (gt l x).snd.fst)) : Int) +
                                                  (↑(List.length (num2 (gt l x).snd.snd.fst)) : Int)) ∧
                                              ((0 : Int) ≤ (↑(gt l x).snd.snd.snd.length : Int) ∧
                                                  (↑(gt l x).snd.snd.snd.length : Int) ≤ (4611686018427387904 : Int)) ∧
                                                inI64
                                                    ((↑(num2 (gt l x).snd.fst ++ num2 (gt l x).snd.snd.fst).length :
                                                        Int) +
                                                      (↑(List.length (num2 (↑(gt l x).snd.snd.snd.length : Int))) :
                                                        Int)) ∧
                                                  inI64
                                                      ((↑(num2 (gt l x).snd.fst ++ num2 (gt l x).snd.snd.fst ++
                                                                num2 (↑(gt l x).snd.snd.snd.length : Int)).length :
                                                          Int) +
                                                        (↑(gt l x).snd.snd.snd.length : Int)) ∧
                                                    inI64
                                                        ((↑(out ++
                                                                  List.map (fun (n : Int) => UInt8.ofNat n.toNat)
                                                                    [IntKind.u8.wrap (gt l x).fst]).length :
                                                            Int) +
                                                          (↑(num2 (gt l x).snd.fst ++ num2 (gt l x).snd.snd.fst ++
                                                                    num2 (↑(gt l x).snd.snd.snd.length : Int) ++
                                                                  (gt l x).snd.snd.snd).length :
                                                            Int)) ∧
                                                      inI64 (x + (1 : Int)) ∧
                                                        I
                                                            (out ++
                                                                List.map (fun (n : Int) => UInt8.ofNat n.toNat)
                                                                  [IntKind.u8.wrap (gt l x).fst] ++
                                                              (num2 (gt l x).snd.fst ++ num2 (gt l x).snd.snd.fst ++
                                                                  num2 (↑(gt l x).snd.snd.snd.length : Int) ++
                                                                (gt l x).snd.snd.snd))
                                                            (x + (1 : Int)) ∧
                                                          m
                                                              (out ++
                                                                  List.map (fun (n : Int) => UInt8.ofNat n.toNat)
                                                                    [IntKind.u8.wrap (gt l x).fst] ++
                                                                (num2 (gt l x).snd.fst ++ num2 (gt l x).snd.snd.fst ++
                                                                    num2 (↑(gt l x).snd.snd.snd.length : Int) ++
                                                                  (gt l x).snd.snd.snd))
                                                              (x + (1 : Int)) <
                                                            m out x) ∧
                                      (¬(gt l x).fst = (1 : Int) →
                                        inI64 (x + (1 : Int)) ∧
                                          I
                                              (out ++
                                                List.map (fun (n : Int) => UInt8.ofNat n.toNat)
                                                  [IntKind.u8.wrap (gt l x).fst])
                                              (x + (1 : Int)) ∧
                                            m
                                                (out ++
                                                  List.map (fun (n : Int) => UInt8.ofNat n.toNat)
                                                    [IntKind.u8.wrap (gt l x).fst])
                                                (x + (1 : Int)) <
                                              m out x)) ∧
                            (¬x < (↑l.length : Int) →
                              fitS out ∧
                                (65536 : Int) ≠ (0 : Int) ∧
                                  inI64 ((polyOf out).fst.tdiv (65536 : Int)) ∧
                                    ((0 : Int) ≤ (polyOf out).fst.tdiv (65536 : Int) ∧
                                        (polyOf out).fst.tdiv (65536 : Int) ≤ (4611686018427387904 : Int)) ∧
                                      inI64
                                          ((↑out.length : Int) +
                                            (↑(List.length (num2 ((polyOf out).fst.tdiv (65536 : Int)))) : Int)) ∧
                                        (65536 : Int) ≠ (0 : Int) ∧
                                          ((0 : Int) ≤ (polyOf out).fst.tmod (65536 : Int) ∧
                                              (polyOf out).fst.tmod (65536 : Int) ≤ (4611686018427387904 : Int)) ∧
                                            inI64
                                                ((↑(out ++ num2 ((polyOf out).fst.tdiv (65536 : Int))).length : Int) +
                                                  (↑(List.length (num2 ((polyOf out).fst.tmod (65536 : Int)))) : Int)) ∧
                                              List.map (fun (c : UInt8) => (↑c.toNat : Int))
                                                    (out ++ num2 ((polyOf out).fst.tdiv (65536 : Int)) ++
                                                      num2 ((polyOf out).fst.tmod (65536 : Int))) =
                                                  (logSave s l).fst ∧
                                                (0 : Int) = (logSave s l).snd))) :
    Con Try.prog f_ref_LogSaved ref_LogSaved_ct := ⟨ref_LogSaved_ok.able, fun x hx =>
  con_eq hC (L := []) (trivial) ref_LogSaved_ok (ct := ref_LogSaved_ct) (depth := 4) rfl (by kernel_rfl) x (H (@id (List UInt8 × (List (Int × Int × Int × List UInt8))) x).1 (@id (List UInt8 × (List (Int × Int × Int × List UInt8))) x).2 (mpr' hx (by kernel_rfl))) (by kernel_rfl)⟩

theorem law_sameBytes_vc (hC : Cons Try.prog [])
    (H : ∀ (a : List Int) (b : List Int), (fitL a ∧ fitL b) →
  ((↑a.length : Int) ≠ (↑b.length : Int) → false = bo (a = b)) ∧
  (¬(↑a.length : Int) ≠ (↑b.length : Int) →
    ∃ (I : Int → Prop),
      ∃ (m : Int → Nat),
        I 0 ∧
          ∀ (i : Int),
            I i →
              (i < (↑a.length : Int) →
                  0 ≤ i ∧
                    i < (↑a.length : Int) ∧
                      0 ≤ i ∧
                        i < (↑b.length : Int) ∧
                          (gt a i ≠ gt b i → false = bo (a = b)) ∧
                            (¬gt a i ≠ gt b i → inI64 (i + 1) ∧ I (i + 1) ∧ m (i + 1) < m i)) ∧
                (¬i < (↑a.length : Int) → true = bo (a = b)))) :
    Con Try.prog f_law_sameBytes law_sameBytes_ct := ⟨law_sameBytes_ok.able, fun x hx =>
  con_eq hC (L := []) (trivial) law_sameBytes_ok (ct := law_sameBytes_ct) (depth := 0) rfl (by kernel_rfl) x (H (@id (List Int × List Int) x).1 (@id (List Int × List Int) x).2 (mpr' hx (by kernel_rfl))) (by kernel_rfl)⟩

theorem law_LogSaves_vc (hC : Cons Try.prog [(f_log_Save, log_Save_ct), (f_ref_LogSaved, ref_LogSaved_ct), (f_law_sameBytes, law_sameBytes_ct)])
    (H : ∀ (s : List UInt8) (l : List (Int × Int × Int × List UInt8)), (s.length.le 140737488351232 ∧
  l.length ≤ 140737488351232 ∧
    ∀ (x : Int × Int × Int × List UInt8),
      List.Mem x l →
        (IntKind.i64.min ≤ x.1 ∧ x.1 ≤ IntKind.i64.max) ∧
          (IntKind.i64.min ≤ x.2.1 ∧ x.2.1 ≤ IntKind.i64.max) ∧
            (IntKind.i64.min ≤ x.2.2.1 ∧ x.2.2.1 ≤ IntKind.i64.max) ∧ x.2.2.2.length.le 140737488351232) →
  True ∧
  True ∧
    (fitL (logSave s l).fst ∧ fitL (logSave s l).fst) ∧
      bo (bo ((logSave s l).fst = (logSave s l).fst) = true ∧ (logSave s l).snd = (logSave s l).snd) = true) :
    Con Try.prog f_law_LogSaves law_LogSaves_ct := ⟨law_LogSaves_ok.able, fun x hx =>
  con_eq hC (L := []) (trivial) law_LogSaves_ok (ct := law_LogSaves_ct) (depth := 3) rfl (by kernel_rfl) x (H (@id (List UInt8 × (List (Int × Int × Int × List UInt8))) x).1 (@id (List UInt8 × (List (Int × Int × Int × List UInt8))) x).2 (mpr' hx (by kernel_rfl))) (by kernel_rfl)⟩

end Go.Proofs.Ytigcaalfadoiaaa
