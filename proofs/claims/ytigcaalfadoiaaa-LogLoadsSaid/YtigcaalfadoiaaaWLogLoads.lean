/- The typed conditions of the functions, printed by a program of the claim's author; each gives the contract of its function. Conditions: none. -/
import Derived.Test.YtigcaalfadoiaaaGLogLoads
import Derived.Test.YtigcaalfadoiaaaVpA
import Derived.Test.YtigcaalfadoiaaaVpB
import Derived.Test.YtigcaalfadoiaaaVpC
import Derived.Test.YtigcaalfadoiaaaVpE
import Derived.Test.YtigcaalfadoiaaaVpU
import Derived.Test.YtigcaalfadoiaaaVpV
import Derived.Test.YtigcaalfadoiaaaVpW
import Derived.Test.YtigcaalfadoiaaaVpX
import Derived.Test.YtigcaalfadoiaaaBase
set_option linter.unusedVariables false
set_option linter.unusedSimpArgs false
set_option maxRecDepth 100000
namespace Go.Proofs.Ytigcaalfadoiaaa
open Go.Vc Go.Fu

theorem poly_Of_vc (hC : Cons Try.prog [])
 (H : ∀ (text : List UInt8), (fitS text) →
 ∃ (I : Int → Int → Int → Prop),
 ∃ (m : Int → Int → Int → Nat),
 ((0 : Int) = (0 : Int) ∧ (0 : Int) = (0 : Int) ∧ I (0 : Int) (0 : Int) (1 : Int)) ∧
 ∀ (x h h_1 : Int),
 I x h h_1 →
 (x < (↑text.length : Int) →
 inI64 (h * (257 : Int)) ∧
 (0 : Int) ≤ x ∧
 x < (↑text.length : Int) ∧
 inI64 (h * (257 : Int) + (↑(gt text x).toNat : Int)) ∧
 inI64 (h * (257 : Int) + (↑(gt text x).toNat : Int) + (1 : Int)) ∧
 (2147483647 : Int) ≠ (0 : Int) ∧
 inI64 (h_1 * (257 : Int)) ∧
 (2147483647 : Int) ≠ (0 : Int) ∧
 inI64 (x + (1 : Int)) ∧
 (0 : Int) = (0 : Int) ∧
 (0 : Int) = (0 : Int) ∧
 I (x + (1 : Int))
 ((h * (257 : Int) + (↑(gt text x).toNat : Int) + (1 : Int)).tmod
 (2147483647 : Int))
 ((h_1 * (257 : Int)).tmod (2147483647 : Int)) ∧
 m (x + (1 : Int))
 ((h * (257 : Int) + (↑(gt text x).toNat : Int) + (1 : Int)).tmod
 (2147483647 : Int))
 ((h_1 * (257 : Int)).tmod (2147483647 : Int)) <
 m x h h_1) ∧
 (¬x < (↑text.length : Int) → (h, h_1) = polyOf text)) :
 Con Try.prog f_poly_Of poly_Of_ct := ⟨poly_Of_ok.able, fun x hx =>
 con_eq hC (L := []) (trivial) poly_Of_ok (ct := poly_Of_ct) (depth := 0) rfl (by kernel_rfl) x (H (@id (List UInt8) x) (mpr' hx (by kernel_rfl))) (by kernel_rfl)⟩

theorem log_fault_vc (hC : Cons Try.prog [])
 (H : ∀ (s : List UInt8) (l : List (Int × Int × Int × List UInt8)), (True) →
 (600 < (↑s.length : Int) ∨ 80 < (↑l.length : Int) → 1 = logFault s l) ∧
 (¬(600 < (↑s.length : Int) ∨ 80 < (↑l.length : Int)) →
 ∃ (I : Int → Prop),
 ∃ (m : Int → Nat),
 I 0 ∧
 ∀ (x : Int),
 I x →
 (x < (↑l.length : Int) →
 0 ≤ x ∧
 x < (↑l.length : Int) ∧
 (600 < (↑(gt l x).snd.snd.snd.length : Int) → 1 = logFault s l) ∧
 (¬600 < (↑(gt l x).snd.snd.snd.length : Int) → inI64 (x + 1) ∧ I (x + 1) ∧ m (x + 1) < m x)) ∧
 (¬x < (↑l.length : Int) →
 ∃ (I : Int → Prop),
 ∃ (m : Int → Nat),
 I 0 ∧
 ∀ (x : Int),
 I x →
 (x < (↑l.length : Int) →
 0 ≤ x ∧
 x < (↑l.length : Int) ∧
 ((gt l x).fst < 1 ∨ 4 < (gt l x).fst → 3 = logFault s l) ∧
 (¬((gt l x).fst < 1 ∨ 4 < (gt l x).fst) →
 ((gt l x).fst ≠ 1 ∧
 ¬((gt l x).snd.fst = 0 ∧
 (gt l x).snd.snd.fst = 0 ∧ (gt l x).snd.snd.snd = []) →
 4 = logFault s l) ∧
 (¬((gt l x).fst ≠ 1 ∧
 ¬((gt l x).snd.fst = 0 ∧
 (gt l x).snd.snd.fst = 0 ∧ (gt l x).snd.snd.snd = [])) →
 (¬¬(0 ≤ (gt l x).snd.fst ∧ (gt l x).snd.fst ≤ 600) →
 (¬(0 ≤ (gt l x).snd.fst ∧ (gt l x).snd.fst ≤ 600) ∨
 ¬(0 ≤ (gt l x).snd.snd.fst ∧ (gt l x).snd.snd.fst ≤ 600) →
 2 = logFault s l) ∧
 (¬(¬(0 ≤ (gt l x).snd.fst ∧ (gt l x).snd.fst ≤ 600) ∨
 ¬(0 ≤ (gt l x).snd.snd.fst ∧ (gt l x).snd.snd.fst ≤ 600)) →
 inI64 (x + 1) ∧ I (x + 1) ∧ m (x + 1) < m x)) ∧
 (¬¬¬(0 ≤ (gt l x).snd.fst ∧ (gt l x).snd.fst ≤ 600) →
 2 = logFault s l)))) ∧
 (¬x < (↑l.length : Int) → 0 = logFault s l)))) :
 Con Try.prog f_log_fault log_fault_ct := ⟨log_fault_ok.able, fun x hx =>
 con_eq hC (L := [(f_log_fits, log_fits_fi)]) (⟨log_fits_ok, trivial⟩) log_fault_ok (ct := log_fault_ct) (depth := 3) rfl (by kernel_rfl) x (H (@id (List UInt8 × (List (Int × Int × Int × List UInt8))) x).1 (@id (List UInt8 × (List (Int × Int × Int × List UInt8))) x).2 (mpr' hx (by kernel_rfl))) (by kernel_rfl)⟩

theorem __log_reader__number_vc (hC : Cons Try.prog [])
 (H : ∀ (r : List Int × Bool), (rdOk r) →
 (r.snd = true ∨ (↑r.fst.length : Int) < (2 : Int) →
 min (2 : Int) (2 : Int) = min (2 : Int) (2 : Int) ∧
 (0 : Int) ≤ min (2 : Int) (2 : Int) ∧
 (1 : Nat) * (min (2 : Int) (2 : Int)).toNat ≤ (140737488355328 : Nat) ∧
 (0 : Int) ≤ (0 : Int) ∧
 (0 : Int) < (↑(List.replicate (min (2 : Int) (2 : Int)).toNat (0 : Int)).length : Int) ∧
 inI64 (gt (List.replicate (min (2 : Int) (2 : Int)).toNat (0 : Int)) (0 : Int)) ∧
 (0 : Int) ≤ (8 : Int) ∧
 inI64
 (gt (List.replicate (min (2 : Int) (2 : Int)).toNat (0 : Int)) (0 : Int) *
 (2 : Int) ^ min (Int.toNat (8 : Int)) IntKind.i64.bits) ∧
 (0 : Int) ≤ (1 : Int) ∧
 (1 : Int) < (↑(List.replicate (min (2 : Int) (2 : Int)).toNat (0 : Int)).length : Int) ∧
 inI64 (gt (List.replicate (min (2 : Int) (2 : Int)).toNat (0 : Int)) (1 : Int)) ∧
 (r.fst, bo (r.snd = true ∨ (↑r.fst.length : Int) < (2 : Int))) = (rdNum r).fst ∧
 IntKind.i64.wrap
 (↑(BitVec.ofInt IntKind.i64.bits
 (gt (List.replicate (min (2 : Int) (2 : Int)).toNat (0 : Int)) (0 : Int) *
 (2 : Int) ^ min (Int.toNat (8 : Int)) IntKind.i64.bits) |||
 BitVec.ofInt IntKind.i64.bits
 (gt (List.replicate (min (2 : Int) (2 : Int)).toNat (0 : Int))
 (1 : Int))).toNat :
 Int) =
 (rdNum r).snd) ∧
 (¬(r.snd = true ∨ (↑r.fst.length : Int) < (2 : Int)) →
 (0 : Int) ≤ (0 : Int) ∧
 (0 : Int) ≤ (2 : Int) ∧
 (2 : Int) ≤ (↑r.fst.length : Int) ∧
 (0 : Int) ≤ (2 : Int) ∧
 (2 : Int) ≤ (↑r.fst.length : Int) ∧
 (↑r.fst.length : Int) ≤ (↑r.fst.length : Int) ∧
 (0 : Int) ≤ (0 : Int) ∧
 (0 : Int) <
 (↑(List.drop (Int.toNat (0 : Int)) (List.take (Int.toNat (2 : Int)) r.fst)).length : Int) ∧
 inI64 (gt (List.drop (Int.toNat (0 : Int)) (List.take (Int.toNat (2 : Int)) r.fst)) (0 : Int)) ∧
 (0 : Int) ≤ (8 : Int) ∧
 inI64
 (gt (List.drop (Int.toNat (0 : Int)) (List.take (Int.toNat (2 : Int)) r.fst)) (0 : Int) *
 (2 : Int) ^ min (Int.toNat (8 : Int)) IntKind.i64.bits) ∧
 (0 : Int) ≤ (1 : Int) ∧
 (1 : Int) <
 (↑(List.drop (Int.toNat (0 : Int)) (List.take (Int.toNat (2 : Int)) r.fst)).length :
 Int) ∧
 inI64
 (gt (List.drop (Int.toNat (0 : Int)) (List.take (Int.toNat (2 : Int)) r.fst))
 (1 : Int)) ∧
 (List.drop (Int.toNat (2 : Int)) (List.take (↑r.fst.length : Int).toNat r.fst),
 bo (r.snd = true ∨ (↑r.fst.length : Int) < (2 : Int))) =
 (rdNum r).fst ∧
 IntKind.i64.wrap
 (↑(BitVec.ofInt IntKind.i64.bits
 (gt
 (List.drop (Int.toNat (0 : Int))
 (List.take (Int.toNat (2 : Int)) r.fst))
 (0 : Int) *
 (2 : Int) ^ min (Int.toNat (8 : Int)) IntKind.i64.bits) |||
 BitVec.ofInt IntKind.i64.bits
 (gt
 (List.drop (Int.toNat (0 : Int))
 (List.take (Int.toNat (2 : Int)) r.fst))
 (1 : Int))).toNat :
 Int) =
 (rdNum r).snd)) :
 ConU Try.prog f___log_reader__number __log_reader__number_cu := ⟨__log_reader__number_ok.able, by kernel_rfl, fun v r x hx =>
 conU_eq hC (L := [(f___log_reader__take, __log_reader__take_fi)]) (⟨__log_reader__take_ok, trivial⟩) __log_reader__number_ok (c := __log_reader__number_cu) (depth := 4) rfl (by kernel_rfl) (by kernel_rfl) v r x (H (@id (List Int × Bool) r)  (mpr' hx (by kernel_rfl))) (by kernel_rfl)⟩

theorem __log_reader__text_vc (hC : Cons Try.prog []) (hU___log_reader__number : ConU Try.prog f___log_reader__number __log_reader__number_cu)
 (H : ∀ (r : List Int × Bool), (rdOk r) →
 rdOk (r.fst, r.snd) ∧
 ((rdNum (r.fst, r.snd)).fst.snd = true ∨ (↑(rdNum (r.fst, r.snd)).fst.fst.length : Int) < (rdNum (r.fst, r.snd)).snd →
 min (rdNum (r.fst, r.snd)).snd (2 : Int) = min (rdNum (r.fst, r.snd)).snd (2 : Int) ∧
 (0 : Int) ≤ min (rdNum (r.fst, r.snd)).snd (2 : Int) ∧
 (1 : Nat) * (min (rdNum (r.fst, r.snd)).snd (2 : Int)).toNat ≤ (140737488355328 : Nat) ∧
 ((rdNum (r.fst, r.snd)).fst.fst,
 bo
 ((rdNum (r.fst, r.snd)).fst.snd = true ∨
 (↑(rdNum (r.fst, r.snd)).fst.fst.length : Int) < (rdNum (r.fst, r.snd)).snd)) =
 (rdText r).fst ∧
 List.map (fun (n : Int) => UInt8.ofNat n.toNat)
 (List.replicate (min (rdNum (r.fst, r.snd)).snd (2 : Int)).toNat (0 : Int)) =
 (rdText r).snd) ∧
 (¬((rdNum (r.fst, r.snd)).fst.snd = true ∨
 (↑(rdNum (r.fst, r.snd)).fst.fst.length : Int) < (rdNum (r.fst, r.snd)).snd) →
 (0 : Int) ≤ (0 : Int) ∧
 (0 : Int) ≤ (rdNum (r.fst, r.snd)).snd ∧
 (rdNum (r.fst, r.snd)).snd ≤ (↑(rdNum (r.fst, r.snd)).fst.fst.length : Int) ∧
 (0 : Int) ≤ (rdNum (r.fst, r.snd)).snd ∧
 (rdNum (r.fst, r.snd)).snd ≤ (↑(rdNum (r.fst, r.snd)).fst.fst.length : Int) ∧
 (↑(rdNum (r.fst, r.snd)).fst.fst.length : Int) ≤ (↑(rdNum (r.fst, r.snd)).fst.fst.length : Int) ∧
 (List.drop (rdNum (r.fst, r.snd)).snd.toNat
 (List.take (↑(rdNum (r.fst, r.snd)).fst.fst.length : Int).toNat
 (rdNum (r.fst, r.snd)).fst.fst),
 bo
 ((rdNum (r.fst, r.snd)).fst.snd = true ∨
 (↑(rdNum (r.fst, r.snd)).fst.fst.length : Int) < (rdNum (r.fst, r.snd)).snd)) =
 (rdText r).fst ∧
 List.map (fun (n : Int) => UInt8.ofNat n.toNat)
 (List.drop (Int.toNat (0 : Int))
 (List.take (rdNum (r.fst, r.snd)).snd.toNat (rdNum (r.fst, r.snd)).fst.fst)) =
 (rdText r).snd)) :
 ConU Try.prog f___log_reader__text __log_reader__text_cu := ⟨__log_reader__text_ok.able, by kernel_rfl, fun v r x hx =>
 conU_eq hC (L := [(f___log_reader__number, cuFi __log_reader__number_cu), (f___log_reader__take, __log_reader__take_fi)]) (⟨cu_fok hU___log_reader__number, __log_reader__take_ok, trivial⟩) __log_reader__text_ok (c := __log_reader__text_cu) (depth := 4) rfl (by kernel_rfl) (by kernel_rfl) v r x (H (@id (List Int × Bool) r)  (mpr' hx (by kernel_rfl))) (by kernel_rfl)⟩

theorem __log_reader__deed_vc (hC : Cons Try.prog []) (hU___log_reader__number : ConU Try.prog f___log_reader__number __log_reader__number_cu) (hU___log_reader__text : ConU Try.prog f___log_reader__text __log_reader__text_cu)
 (H : ∀ (r : List Int × Bool), (rdOk r) →
 (r.snd = true ∨ (↑r.fst.length : Int) < (1 : Int) →
 min (1 : Int) (2 : Int) = min (1 : Int) (2 : Int) ∧
 (0 : Int) ≤ min (1 : Int) (2 : Int) ∧
 (1 : Nat) * (min (1 : Int) (2 : Int)).toNat ≤ (140737488355328 : Nat) ∧
 (0 : Int) ≤ (0 : Int) ∧
 (0 : Int) < (↑(List.replicate (min (1 : Int) (2 : Int)).toNat (0 : Int)).length : Int) ∧
 inI64 (gt (List.replicate (min (1 : Int) (2 : Int)).toNat (0 : Int)) (0 : Int)) ∧
 (gt (List.replicate (min (1 : Int) (2 : Int)).toNat (0 : Int)) (0 : Int) = (1 : Int) →
 rdOk (r.fst, bo (r.snd = true ∨ (↑r.fst.length : Int) < (1 : Int))) ∧
 rdOk
 ((rdNum (r.fst, bo (r.snd = true ∨ (↑r.fst.length : Int) < (1 : Int)))).fst.fst,
 (rdNum (r.fst, bo (r.snd = true ∨ (↑r.fst.length : Int) < (1 : Int)))).fst.snd) ∧
 rdOk
 ((rdNum
 ((rdNum (r.fst, bo (r.snd = true ∨ (↑r.fst.length : Int) < (1 : Int)))).fst.fst,
 (rdNum
 (r.fst,
 bo (r.snd = true ∨ (↑r.fst.length : Int) < (1 : Int)))).fst.snd)).fst.fst,
 (rdNum
 ((rdNum (r.fst, bo (r.snd = true ∨ (↑r.fst.length : Int) < (1 : Int)))).fst.fst,
 (rdNum
 (r.fst,
 bo
 (r.snd = true ∨
 (↑r.fst.length : Int) < (1 : Int)))).fst.snd)).fst.snd) ∧
 ((rdText
 ((rdNum
 ((rdNum
 (r.fst,
 bo (r.snd = true ∨ (↑r.fst.length : Int) < (1 : Int)))).fst.fst,
 (rdNum
 (r.fst,
 bo
 (r.snd = true ∨
 (↑r.fst.length : Int) < (1 : Int)))).fst.snd)).fst.fst,
 (rdNum
 ((rdNum
 (r.fst,
 bo (r.snd = true ∨ (↑r.fst.length : Int) < (1 : Int)))).fst.fst,
 (rdNum
 (r.fst,
 bo
 (r.snd = true ∨
 (↑r.fst.length : Int) <
 (1 : Int)))).fst.snd)).fst.snd)).fst.fst,
 (rdText
 ((rdNum
 ((rdNum
 (r.fst,
 bo (r.snd = true ∨ (↑r.fst.length : Int) < (1 : Int)))).fst.fst,
 (rdNum
 (r.fst,
 bo
 (r.snd = true ∨
 (↑r.fst.length : Int) < (1 : Int)))).fst.snd)).fst.fst,
 (rdNum
 ((rdNum
 (r.fst,
 bo (r.snd = true ∨ (↑r.fst.length : Int) < (1 : Int)))).fst.fst,
 (rdNum
 (r.fst,
 bo
 (r.snd = true ∨
 (↑r.fst.length : Int) <
 (1 : Int)))).fst.snd)).fst.snd)).fst.snd) =
 (rdDeed r).fst ∧
 (gt (List.replicate (min (1 : Int) (2 : Int)).toNat (0 : Int)) (0 : Int),
 (rdNum (r.fst, bo (r.snd = true ∨ (↑r.fst.length : Int) < (1 : Int)))).snd,
 (rdNum
 ((rdNum (r.fst, bo (r.snd = true ∨ (↑r.fst.length : Int) < (1 : Int)))).fst.fst,
 (rdNum
 (r.fst,
 bo (r.snd = true ∨ (↑r.fst.length : Int) < (1 : Int)))).fst.snd)).snd,
 (rdText
 ((rdNum
 ((rdNum
 (r.fst,
 bo (r.snd = true ∨ (↑r.fst.length : Int) < (1 : Int)))).fst.fst,
 (rdNum
 (r.fst,
 bo
 (r.snd = true ∨
 (↑r.fst.length : Int) < (1 : Int)))).fst.snd)).fst.fst,
 (rdNum
 ((rdNum
 (r.fst,
 bo (r.snd = true ∨ (↑r.fst.length : Int) < (1 : Int)))).fst.fst,
 (rdNum
 (r.fst,
 bo
 (r.snd = true ∨
 (↑r.fst.length : Int) <
 (1 : Int)))).fst.snd)).fst.snd)).snd) =
 (rdDeed r).snd) ∧
 (¬gt (List.replicate (min (1 : Int) (2 : Int)).toNat (0 : Int)) (0 : Int) = (1 : Int) →
 (r.fst, bo (r.snd = true ∨ (↑r.fst.length : Int) < (1 : Int))) = (rdDeed r).fst ∧
 (gt (List.replicate (min (1 : Int) (2 : Int)).toNat (0 : Int)) (0 : Int), (0 : Int), (0 : Int),
 []) =
 (rdDeed r).snd)) ∧
 (¬(r.snd = true ∨ (↑r.fst.length : Int) < (1 : Int)) →
 (0 : Int) ≤ (0 : Int) ∧
 (0 : Int) ≤ (1 : Int) ∧
 (1 : Int) ≤ (↑r.fst.length : Int) ∧
 (0 : Int) ≤ (1 : Int) ∧
 (1 : Int) ≤ (↑r.fst.length : Int) ∧
 (↑r.fst.length : Int) ≤ (↑r.fst.length : Int) ∧
 (0 : Int) ≤ (0 : Int) ∧
 (0 : Int) <
 (↑(List.drop (Int.toNat (0 : Int)) (List.take (Int.toNat (1 : Int)) r.fst)).length : Int) ∧
 inI64 (gt (List.drop (Int.toNat (0 : Int)) (List.take (Int.toNat (1 : Int)) r.fst)) (0 : Int)) ∧
 (gt (List.drop (Int.toNat (0 : Int)) (List.take (Int.toNat (1 : Int)) r.fst)) (0 : Int) =
 (1 : Int) →
 rdOk
 (List.drop (Int.toNat (1 : Int)) (List.take (↑r.fst.length : Int).toNat r.fst),
 bo (r.snd = true ∨ (↑r.fst.length : Int) < (1 : Int))) ∧
 rdOk
 ((rdNum
 (List.drop (Int.toNat (1 : Int)) (List.take (↑r.fst.length : Int).toNat r.fst),
 bo (r.snd = true ∨ (↑r.fst.length : Int) < (1 : Int)))).fst.fst,
 (rdNum
 (List.drop (Int.toNat (1 : Int)) (List.take (↑r.fst.length : Int).toNat r.fst),
 bo (r.snd = true ∨ (↑r.fst.length : Int) < (1 : Int)))).fst.snd) ∧
 rdOk
 ((rdNum
 ((rdNum
 (List.drop (Int.toNat (1 : Int))
 (List.take (↑r.fst.length : Int).toNat r.fst),
 bo (r.snd = true ∨ (↑r.fst.length : Int) < (1 : Int)))).fst.fst,
 (rdNum
 (List.drop (Int.toNat (1 : Int))
 (List.take (↑r.fst.length : Int).toNat r.fst),
 bo
 (r.snd = true ∨
 (↑r.fst.length : Int) < (1 : Int)))).fst.snd)).fst.fst,
 (rdNum
 ((rdNum
 (List.drop (Int.toNat (1 : Int))
 (List.take (↑r.fst.length : Int).toNat r.fst),
 bo (r.snd = true ∨ (↑r.fst.length : Int) < (1 : Int)))).fst.fst,
 (rdNum
 (List.drop (Int.toNat (1 : Int))
 (List.take (↑r.fst.length : Int).toNat r.fst),
 bo
 (r.snd = true ∨
 (↑r.fst.length : Int) < (1 : Int)))).fst.snd)).fst.snd) ∧
 ((rdText
 ((rdNum
 ((rdNum
 (List.drop (Int.toNat (1 : Int))
 (List.take (↑r.fst.length : Int).toNat r.fst),
 bo
 (r.snd = true ∨
 (↑r.fst.length : Int) < (1 : Int)))).fst.fst,
 (rdNum
 (List.drop (Int.toNat (1 : Int))
 (List.take (↑r.fst.length : Int).toNat r.fst),
 bo
 (r.snd = true ∨
 (↑r.fst.length : Int) <
 (1 : Int)))).fst.snd)).fst.fst,
 (rdNum
 ((rdNum
 (List.drop (Int.toNat (1 : Int))
 (List.take (↑r.fst.length : Int).toNat r.fst),
 bo
 (r.snd = true ∨
 (↑r.fst.length : Int) < (1 : Int)))).fst.fst,
 (rdNum
 (List.drop (Int.toNat (1 : Int))
 (List.take (↑r.fst.length : Int).toNat r.fst),
 bo
 (r.snd = true ∨
 (↑r.fst.length : Int) <
 (1 : Int)))).fst.snd)).fst.snd)).fst.fst,
 (rdText
 ((rdNum
 ((rdNum
 (List.drop (Int.toNat (1 : Int))
 (List.take (↑r.fst.length : Int).toNat r.fst),
 bo
 (r.snd = true ∨
 (↑r.fst.length : Int) < (1 : Int)))).fst.fst,
 (rdNum
 (List.drop (Int.toNat (1 : Int))
 (List.take (↑r.fst.length : Int).toNat r.fst),
 bo
 (r.snd = true ∨
 (↑r.fst.length : Int) <
 (1 : Int)))).fst.snd)).fst.fst,
 (rdNum
 ((rdNum
 (List.drop (Int.toNat (1 : Int))
 (List.take (↑r.fst.length : Int).toNat r.fst),
 bo
 (r.snd = true ∨
 (↑r.fst.length : Int) < (1 : Int)))).fst.fst,
 (rdNum
 (List.drop (Int.toNat (1 : Int))
 (List.take (↑r.fst.length : Int).toNat r.fst),
 bo
 (r.snd = true ∨
 (↑r.fst.length : Int) <
 (1 : Int)))).fst.snd)).fst.snd)).fst.snd) =
 (rdDeed r).fst ∧
 (gt (List.drop (Int.toNat (0 : Int)) (List.take (Int.toNat (1 : Int)) r.fst))
 (0 : Int),
 (rdNum
 (List.drop (Int.toNat (1 : Int))
 (List.take (↑r.fst.length : Int).toNat r.fst),
 bo (r.snd = true ∨ (↑r.fst.length : Int) < (1 : Int)))).snd,
 (rdNum
 ((rdNum
 (List.drop (Int.toNat (1 : Int))
 (List.take (↑r.fst.length : Int).toNat r.fst),
 bo (r.snd = true ∨ (↑r.fst.length : Int) < (1 : Int)))).fst.fst,
 (rdNum
 (List.drop (Int.toNat (1 : Int))
 (List.take (↑r.fst.length : Int).toNat r.fst),
 bo
 (r.snd = true ∨
 (↑r.fst.length : Int) < (1 : Int)))).fst.snd)).snd,
 (rdText
 ((rdNum
 ((rdNum
 (List.drop (Int.toNat (1 : Int))
 (List.take (↑r.fst.length : Int).toNat r.fst),
 bo
 (r.snd = true ∨
 (↑r.fst.length : Int) < (1 : Int)))).fst.fst,
 (rdNum
 (List.drop (Int.toNat (1 : Int))
 (List.take (↑r.fst.length : Int).toNat r.fst),
 bo
 (r.snd = true ∨
 (↑r.fst.length : Int) < (1 : Int)))).fst.snd)).fst.fst,
 (rdNum
 ((rdNum
 (List.drop (Int.toNat (1 : Int))
 (List.take (↑r.fst.length : Int).toNat r.fst),
 bo
 (r.snd = true ∨
 (↑r.fst.length : Int) < (1 : Int)))).fst.fst,
 (rdNum
 (List.drop (Int.toNat (1 : Int))
 (List.take (↑r.fst.length : Int).toNat r.fst),
 bo
 (r.snd = true ∨
 (↑r.fst.length : Int) <
 (1 : Int)))).fst.snd)).fst.snd)).snd) =
 (rdDeed r).snd) ∧
 (¬gt (List.drop (Int.toNat (0 : Int)) (List.take (Int.toNat (1 : Int)) r.fst)) (0 : Int) =
 (1 : Int) →
 (List.drop (Int.toNat (1 : Int)) (List.take (↑r.fst.length : Int).toNat r.fst),
 bo (r.snd = true ∨ (↑r.fst.length : Int) < (1 : Int))) =
 (rdDeed r).fst ∧
 (gt (List.drop (Int.toNat (0 : Int)) (List.take (Int.toNat (1 : Int)) r.fst)) (0 : Int),
 (0 : Int), (0 : Int), []) =
 (rdDeed r).snd))) :
 ConU Try.prog f___log_reader__deed __log_reader__deed_cu := ⟨__log_reader__deed_ok.able, by kernel_rfl, fun v r x hx =>
 conU_eq hC (L := [(f___log_reader__number, cuFi __log_reader__number_cu), (f___log_reader__text, cuFi __log_reader__text_cu), (f___log_reader__take, __log_reader__take_fi)]) (⟨cu_fok hU___log_reader__number, cu_fok hU___log_reader__text, __log_reader__take_ok, trivial⟩) __log_reader__deed_ok (c := __log_reader__deed_cu) (depth := 4) rfl (by kernel_rfl) (by kernel_rfl) v r x (H (@id (List Int × Bool) r)  (mpr' hx (by kernel_rfl))) (by kernel_rfl)⟩

theorem log_Load_vc (hC : Cons Try.prog [(f_poly_Of, poly_Of_ct), (f_log_fault, log_fault_ct)]) (hU___log_reader__number : ConU Try.prog f___log_reader__number __log_reader__number_cu) (hU___log_reader__text : ConU Try.prog f___log_reader__text __log_reader__text_cu) (hU___log_reader__deed : ConU Try.prog f___log_reader__deed __log_reader__deed_cu)
 (H : ∀ (b : List Int), (bytesOk b ∧ fitL b) →
 ((↑b.length : Int) < (12 : Int) → [] = (logLoad b).fst ∧ [] = (logLoad b).snd.fst ∧ (5 : Int) = (logLoad b).snd.snd) ∧
 (¬(↑b.length : Int) < (12 : Int) →
 inI64 ((↑b.length : Int) - (4 : Int)) ∧
 (0 : Int) ≤ (0 : Int) ∧
 (0 : Int) ≤ (↑b.length : Int) - (4 : Int) ∧
 (↑b.length : Int) - (4 : Int) ≤ (↑b.length : Int) ∧
 (0 : Int) ≤
 (↑(List.drop (Int.toNat (0 : Int)) (List.take ((↑b.length : Int) - (4 : Int)).toNat b)).length : Int) ∧
 (↑(List.drop (Int.toNat (0 : Int)) (List.take ((↑b.length : Int) - (4 : Int)).toNat b)).length : Int) ≤
 (↑b.length : Int) ∧
 (↑b.length : Int) ≤ (↑b.length : Int) ∧
 ∃ (I : Int → Int → Prop),
 ∃ (m : Int → Int → Nat),
 (([] : List (Int × Int × Int × List UInt8)) = [] ∧ I (0 : Int) (0 : Int)) ∧
 ∀ (sum x : Int),
 I sum x →
 (x <
 (↑(List.drop
 (↑(List.drop (Int.toNat (0 : Int))
 (List.take ((↑b.length : Int) - (4 : Int)).toNat b)).length :
 Int).toNat
 (List.take (↑b.length : Int).toNat b)).length :
 Int) →
 (0 : Int) ≤ x ∧
 x <
 (↑(List.drop
 (↑(List.drop (Int.toNat (0 : Int))
 (List.take ((↑b.length : Int) - (4 : Int)).toNat b)).length :
 Int).toNat
 (List.take (↑b.length : Int).toNat b)).length :
 Int) ∧
 (0 : Int) ≤ (8 : Int) ∧
 inI64 (sum * (2 : Int) ^ min (Int.toNat (8 : Int)) IntKind.i64.bits) ∧
 inI64
 (gt
 (List.drop
 (↑(List.drop (Int.toNat (0 : Int))
 (List.take ((↑b.length : Int) - (4 : Int)).toNat b)).length :
 Int).toNat
 (List.take (↑b.length : Int).toNat b))
 x) ∧
 inI64 (x + (1 : Int)) ∧
 ([] : List (Int × Int × Int × List UInt8)) = [] ∧
 I
 (IntKind.i64.wrap
 (↑(BitVec.ofInt IntKind.i64.bits
 (sum *
 (2 : Int) ^
 min (Int.toNat (8 : Int)) IntKind.i64.bits) |||
 BitVec.ofInt IntKind.i64.bits
 (gt
 (List.drop
 (↑(List.drop (Int.toNat (0 : Int))
 (List.take
 ((↑b.length : Int) - (4 : Int)).toNat
 b)).length :
 Int).toNat
 (List.take (↑b.length : Int).toNat b))
 x)).toNat :
 Int))
 (x + (1 : Int)) ∧
 m
 (IntKind.i64.wrap
 (↑(BitVec.ofInt IntKind.i64.bits
 (sum *
 (2 : Int) ^
 min (Int.toNat (8 : Int)) IntKind.i64.bits) |||
 BitVec.ofInt IntKind.i64.bits
 (gt
 (List.drop
 (↑(List.drop (Int.toNat (0 : Int))
 (List.take
 ((↑b.length : Int) - (4 : Int)).toNat
 b)).length :
 Int).toNat
 (List.take (↑b.length : Int).toNat b))
 x)).toNat :
 Int))
 (x + (1 : Int)) <
 m sum x) ∧
 (¬x <
 (↑(List.drop
 (↑(List.drop (Int.toNat (0 : Int))
 (List.take ((↑b.length : Int) - (4 : Int)).toNat b)).length :
 Int).toNat
 (List.take (↑b.length : Int).toNat b)).length :
 Int) →
 fitS
 (List.map (fun (n : Int) => UInt8.ofNat n.toNat)
 (List.drop (Int.toNat (0 : Int))
 (List.take ((↑b.length : Int) - (4 : Int)).toNat b))) ∧
 ((polyOf
 (List.map (fun (n : Int) => UInt8.ofNat n.toNat)
 (List.drop (Int.toNat (0 : Int))
 (List.take ((↑b.length : Int) - (4 : Int)).toNat b)))).fst ≠
 sum →
 [] = (logLoad b).fst ∧
 [] = (logLoad b).snd.fst ∧ (6 : Int) = (logLoad b).snd.snd) ∧
 (¬(polyOf
 (List.map (fun (n : Int) => UInt8.ofNat n.toNat)
 (List.drop (Int.toNat (0 : Int))
 (List.take ((↑b.length : Int) - (4 : Int)).toNat b)))).fst ≠
 sum →
 (0 : Int) ≤ (4 : Int) ∧
 (4 : Int) ≤
 (↑(List.drop (Int.toNat (0 : Int))
 (List.take ((↑b.length : Int) - (4 : Int)).toNat b)).length :
 Int) ∧
 (↑(List.drop (Int.toNat (0 : Int))
 (List.take ((↑b.length : Int) - (4 : Int)).toNat b)).length :
 Int) ≤
 (↑(List.drop (Int.toNat (0 : Int))
 (List.take ((↑b.length : Int) - (4 : Int)).toNat b)).length :
 Int) ∧
 rdOk
 (List.drop (Int.toNat (4 : Int))
 (List.take
 (↑(List.drop (Int.toNat (0 : Int))
 (List.take ((↑b.length : Int) - (4 : Int)).toNat
 b)).length :
 Int).toNat
 (List.drop (Int.toNat (0 : Int))
 (List.take ((↑b.length : Int) - (4 : Int)).toNat b))),
 false) ∧
 rdOk
 ((rdText
 (List.drop (Int.toNat (4 : Int))
 (List.take
 (↑(List.drop (Int.toNat (0 : Int))
 (List.take
 ((↑b.length : Int) - (4 : Int)).toNat
 b)).length :
 Int).toNat
 (List.drop (Int.toNat (0 : Int))
 (List.take ((↑b.length : Int) - (4 : Int)).toNat b))),
 false)).fst.fst,
 (rdText
 (List.drop (Int.toNat (4 : Int))
 (List.take
 (↑(List.drop (Int.toNat (0 : Int))
 (List.take
 ((↑b.length : Int) - (4 : Int)).toNat
 b)).length :
 Int).toNat
 (List.drop (Int.toNat (0 : Int))
 (List.take ((↑b.length : Int) - (4 : Int)).toNat b))),
 false)).fst.snd) ∧
 ∃ (I :
 Int → List (Int × Int × Int × List UInt8) → List Int → Bool → Prop),
 ∃ (m :
 Int → List (Int × Int × Int × List UInt8) → List Int → Bool → Nat),
 I
 (rdNum
 ((rdText
 (List.drop (Int.toNat (4 : Int))
 (List.take
 (↑(List.drop (Int.toNat (0 : Int))
 (List.take
 ((↑b.length : Int) -
 (4 : Int)).toNat
 b)).length :
 Int).toNat
 (List.drop (Int.toNat (0 : Int))
 (List.take
 ((↑b.length : Int) - (4 : Int)).toNat
 b))),
 false)).fst.fst,
 (rdText
 (List.drop (Int.toNat (4 : Int))
 (List.take
 (↑(List.drop (Int.toNat (0 : Int))
 (List.take
 ((↑b.length : Int) -
 (4 : Int)).toNat
 b)).length :
 Int).toNat
 (List.drop (Int.toNat (0 : Int))
 (List.take
 ((↑b.length : Int) - (4 : Int)).toNat
 b))),
 false)).fst.snd)).snd
 []
 (rdNum
 ((rdText
 (List.drop (Int.toNat (4 : Int))
 (List.take
 (↑(List.drop (Int.toNat (0 : Int))
 (List.take
 ((↑b.length : Int) -
 (4 : Int)).toNat
 b)).length :
 Int).toNat
 (List.drop (Int.toNat (0 : Int))
 (List.take
 ((↑b.length : Int) - (4 : Int)).toNat
 b))),
 false)).fst.fst,
 (rdText
 (List.drop (Int.toNat (4 : Int))
 (List.take
 (↑(List.drop (Int.toNat (0 : Int))
 (List.take
 ((↑b.length : Int) -
 (4 : Int)).toNat
 b)).length :
 Int).toNat
 (List.drop (Int.toNat (0 : Int))
 (List.take
 ((↑b.length : Int) - (4 : Int)).toNat
 b))),
 false)).fst.snd)).fst.fst
 (rdNum
 ((rdText
 (List.drop (Int.toNat (4 : Int))
 (List.take
 (↑(List.drop (Int.toNat (0 : Int))
 (List.take
 ((↑b.length : Int) -
 (4 : Int)).toNat
 b)).length :
 Int).toNat
 (List.drop (Int.toNat (0 : Int))
 (List.take
 ((↑b.length : Int) - (4 : Int)).toNat
 b))),
 false)).fst.fst,
 (rdText
 (List.drop (Int.toNat (4 : Int))
 (List.take
 (↑(List.drop (Int.toNat (0 : Int))
 (List.take
 ((↑b.length : Int) -
 (4 : Int)).toNat
 b)).length :
 Int).toNat
 (List.drop (Int.toNat (0 : Int))
 (List.take
 ((↑b.length : Int) - (4 : Int)).toNat
 b))),
 false)).fst.snd)).fst.snd ∧
 ∀ (n : Int) (l : List (Int × Int × Int × List UInt8))
 (r : List Int) (r_1 : Bool),
 I n l r r_1 →
 ((0 : Int) < n ∧ ¬r_1 = true →
 rdOk (r, r_1) ∧
 (l.length + (1 : Nat)) * (40 : Nat) ≤
 (140737488355328 : Nat) ∧
 inI64 (n - (1 : Int)) ∧
 I (n - (1 : Int))
 (l ++
 [((rdDeed (r, r_1)).snd.fst,
 (rdDeed (r, r_1)).snd.snd.fst,
 (rdDeed (r, r_1)).snd.snd.snd.fst,
 (rdDeed (r, r_1)).snd.snd.snd.snd)])
 (rdDeed (r, r_1)).fst.fst
 (rdDeed (r, r_1)).fst.snd ∧
 m (n - (1 : Int))
 (l ++
 [((rdDeed (r, r_1)).snd.fst,
 (rdDeed (r, r_1)).snd.snd.fst,
 (rdDeed (r, r_1)).snd.snd.snd.fst,
 (rdDeed (r, r_1)).snd.snd.snd.snd)])
 (rdDeed (r, r_1)).fst.fst
 (rdDeed (r, r_1)).fst.snd <
 m n l r r_1) ∧
 (¬((0 : Int) < n ∧ ¬r_1 = true) →
 (¬(r_1 = true ∨ (0 : Int) < (↑r.length : Int)) →
 (0 : Int) ≤ (0 : Int)) ∧
 (¬(r_1 = true ∨ (0 : Int) < (↑r.length : Int)) →
 (0 : Int) ≤ (4 : Int)) ∧
 (¬(r_1 = true ∨ (0 : Int) < (↑r.length : Int)) →
 (4 : Int) ≤
 (↑(List.drop (Int.toNat (0 : Int))
 (List.take
 ((↑b.length : Int) - (4 : Int)).toNat
 b)).length :
 Int)) ∧
 (¬((r_1 = true ∨ (0 : Int) < (↑r.length : Int)) ∨
 List.map
 (fun (n : Int) => UInt8.ofNat n.toNat)
 (List.drop (Int.toNat (0 : Int))
 (List.take (Int.toNat (4 : Int))
 (List.drop (Int.toNat (0 : Int))
 (List.take
 ((↑b.length : Int) -
 (4 : Int)).toNat
 b)))) ≠
 [(70 : UInt8), (85 : UInt8), (83 : UInt8),
 (49 : UInt8)]) →
 True) ∧
 (((r_1 = true ∨ (0 : Int) < (↑r.length : Int)) ∨
 List.map
 (fun (n : Int) => UInt8.ofNat n.toNat)
 (List.drop (Int.toNat (0 : Int))
 (List.take (Int.toNat (4 : Int))
 (List.drop (Int.toNat (0 : Int))
 (List.take
 ((↑b.length : Int) -
 (4 : Int)).toNat
 b)))) ≠
 [(70 : UInt8), (85 : UInt8),
 (83 : UInt8), (49 : UInt8)]) ∨
 logFault
 (rdText
 (List.drop (Int.toNat (4 : Int))
 (List.take
 (↑(List.drop
 (Int.toNat
 (0 : Int))
 (List.take
 ((↑b.length :
 Int) -
 (4 :
 Int)).toNat
 b)).length :
 Int).toNat
 (List.drop
 (Int.toNat (0 : Int))
 (List.take
 ((↑b.length : Int) -
 (4 : Int)).toNat
 b))),
 false)).snd
 l ≠
 (0 : Int) →
 [] = (logLoad b).fst ∧
 [] = (logLoad b).snd.fst ∧
 (4 : Int) = (logLoad b).snd.snd) ∧
 (¬(((r_1 = true ∨
 (0 : Int) < (↑r.length : Int)) ∨
 List.map
 (fun (n : Int) =>
 UInt8.ofNat n.toNat)
 (List.drop (Int.toNat (0 : Int))
 (List.take (Int.toNat (4 : Int))
 (List.drop (Int.toNat (0 : Int))
 (List.take
 ((↑b.length : Int) -
 (4 : Int)).toNat
 b)))) ≠
 [(70 : UInt8), (85 : UInt8),
 (83 : UInt8), (49 : UInt8)]) ∨
 logFault
 (rdText
 (List.drop (Int.toNat (4 : Int))
 (List.take
 (↑(List.drop
 (Int.toNat
 (0 : Int))
 (List.take
 ((↑b.length :
 Int) -
 (4 :
 Int)).toNat
 b)).length :
 Int).toNat
 (List.drop
 (Int.toNat (0 : Int))
 (List.take
 ((↑b.length : Int) -
 (4 : Int)).toNat
 b))),
 false)).snd
 l ≠
 (0 : Int)) →
 (rdText
 (List.drop (Int.toNat (4 : Int))
 (List.take
 (↑(List.drop
 (Int.toNat (0 : Int))
 (List.take
 ((↑b.length : Int) -
 (4 : Int)).toNat
 b)).length :
 Int).toNat
 (List.drop (Int.toNat (0 : Int))
 (List.take
 ((↑b.length : Int) -
 (4 : Int)).toNat
 b))),
 false)).snd =
 (logLoad b).fst ∧
 l = (logLoad b).snd.fst ∧
 (0 : Int) = (logLoad b).snd.snd)))))) :
 Con Try.prog f_log_Load log_Load_ct := ⟨log_Load_ok.able, fun x hx =>
 con_eq hC (L := [(f___log_reader__number, cuFi __log_reader__number_cu), (f___log_reader__text, cuFi __log_reader__text_cu), (f___log_reader__deed, cuFi __log_reader__deed_cu)]) (⟨cu_fok hU___log_reader__number, cu_fok hU___log_reader__text, cu_fok hU___log_reader__deed, trivial⟩) log_Load_ok (ct := log_Load_ct) (depth := 4) rfl (by kernel_rfl) x (H (@id (List Int) x) (mpr' hx (by kernel_rfl))) (by kernel_rfl)⟩

theorem ref_PolyOf_vc (hC : Cons Try.prog [])
 (H : ∀ (text : List UInt8), (fitS text) →
 inI64 ((↑text.length : Int) - (1 : Int)) ∧
 ∃ (I : Int → Int → Int → Prop),
 ∃ (m : Int → Int → Int → Nat),
 ((0 : Int) = (0 : Int) ∧ (0 : Int) = (0 : Int) ∧ I (1 : Int) (0 : Int) ((↑text.length : Int) - (1 : Int))) ∧
 ∀ (power sum i : Int),
 I power sum i →
 ((0 : Int) ≤ i →
 (0 : Int) ≤ i ∧
 i < (↑text.length : Int) ∧
 inI64 ((↑(gt text i).toNat : Int) + (1 : Int)) ∧
 inI64 (((↑(gt text i).toNat : Int) + (1 : Int)) * power) ∧
 inI64 (sum + ((↑(gt text i).toNat : Int) + (1 : Int)) * power) ∧
 (2147483647 : Int) ≠ (0 : Int) ∧
 inI64 (power * (257 : Int)) ∧
 (2147483647 : Int) ≠ (0 : Int) ∧
 inI64 (i - (1 : Int)) ∧
 (0 : Int) = (0 : Int) ∧
 (0 : Int) = (0 : Int) ∧
 I ((power * (257 : Int)).tmod (2147483647 : Int))
 ((sum + ((↑(gt text i).toNat : Int) + (1 : Int)) * power).tmod
 (2147483647 : Int))
 (i - (1 : Int)) ∧
 m ((power * (257 : Int)).tmod (2147483647 : Int))
 ((sum + ((↑(gt text i).toNat : Int) + (1 : Int)) * power).tmod
 (2147483647 : Int))
 (i - (1 : Int)) <
 m power sum i) ∧
 (¬(0 : Int) ≤ i → (sum, power) = polyOf text)) :
 Con Try.prog f_ref_PolyOf ref_PolyOf_ct := ⟨ref_PolyOf_ok.able, fun x hx =>
 con_eq hC (L := []) (trivial) ref_PolyOf_ok (ct := ref_PolyOf_ct) (depth := 0) rfl (by kernel_rfl) x (H (@id (List UInt8) x) (mpr' hx (by kernel_rfl))) (by kernel_rfl)⟩

theorem ref_LogFault_vc (hC : Cons Try.prog [])
 (H : ∀ (s : List UInt8) (l : List (Int × Int × Int × List UInt8)), (True) →
 ((600 : Int) < (↑s.length : Int) ∨ (80 : Int) < (↑l.length : Int) → (1 : Int) = logFault s l) ∧
 (¬((600 : Int) < (↑s.length : Int) ∨ (80 : Int) < (↑l.length : Int)) →
 ∃ (I : Int → Prop),
 ∃ (m : Int → Nat),
 I (0 : Int) ∧
 ∀ (x : Int),
 I x →
 (x < (↑l.length : Int) →
 (0 : Int) ≤ x ∧
 x < (↑l.length : Int) ∧
 ((600 : Int) < (↑(gt l x).snd.snd.snd.length : Int) → (1 : Int) = logFault s l) ∧
 (¬(600 : Int) < (↑(gt l x).snd.snd.snd.length : Int) →
 inI64 (x + (1 : Int)) ∧ I (x + (1 : Int)) ∧ m (x + (1 : Int)) < m x)) ∧
 (¬x < (↑l.length : Int) →
 ∃ (I : Int → Prop),
 ∃ (m : Int → Nat),
 ((0 : Int) = (0 : Int) ∧ (0 : Int) = (0 : Int) ∧ noRow UInt8 = noRow UInt8 ∧ I (0 : Int)) ∧
 ∀ (x : Int),
 I x →
 (x < (↑l.length : Int) →
 (0 : Int) ≤ x ∧
 x < (↑l.length : Int) ∧
 ((gt l x).fst < (1 : Int) ∨ (4 : Int) < (gt l x).fst → (3 : Int) = logFault s l) ∧
 (¬((gt l x).fst < (1 : Int) ∨ (4 : Int) < (gt l x).fst) →
 ((gt l x).fst ≠ (1 : Int) ∧
 ¬((gt l x).snd.fst = (0 : Int) ∧
 (gt l x).snd.snd.fst = (0 : Int) ∧ (gt l x).snd.snd.snd = []) →
 (4 : Int) = logFault s l) ∧
 (¬((gt l x).fst ≠ (1 : Int) ∧
 ¬((gt l x).snd.fst = (0 : Int) ∧
 (gt l x).snd.snd.fst = (0 : Int) ∧ (gt l x).snd.snd.snd = [])) →
 ((((gt l x).snd.fst < (0 : Int) ∨ (600 : Int) < (gt l x).snd.fst) ∨
 (gt l x).snd.snd.fst < (0 : Int)) ∨
 (600 : Int) < (gt l x).snd.snd.fst →
 (2 : Int) = logFault s l) ∧
 (¬((((gt l x).snd.fst < (0 : Int) ∨ (600 : Int) < (gt l x).snd.fst) ∨
 (gt l x).snd.snd.fst < (0 : Int)) ∨
 (600 : Int) < (gt l x).snd.snd.fst) →
 inI64 (x + (1 : Int)) ∧
 (0 : Int) = (0 : Int) ∧
 (0 : Int) = (0 : Int) ∧
 noRow UInt8 = noRow UInt8 ∧
 I (x + (1 : Int)) ∧ m (x + (1 : Int)) < m x)))) ∧
 (¬x < (↑l.length : Int) → (0 : Int) = logFault s l)))) :
 Con Try.prog f_ref_LogFault ref_LogFault_ct := ⟨ref_LogFault_ok.able, fun x hx =>
 con_eq hC (L := []) (trivial) ref_LogFault_ok (ct := ref_LogFault_ct) (depth := 3) rfl (by kernel_rfl) x (H (@id (List UInt8 × (List (Int × Int × Int × List UInt8))) x).1 (@id (List UInt8 × (List (Int × Int × Int × List UInt8))) x).2 (mpr' hx (by kernel_rfl))) (by kernel_rfl)⟩

theorem ref_twoBytes_vc (hC : Cons Try.prog [])
 (H : ∀ (n : Int), (0 ≤ n ∧ n ≤ 4611686018427387904) →
 (256 : Int) ≠ (0 : Int) ∧
 inI64 (n.tdiv (256 : Int)) ∧
 (256 : Int) ≠ (0 : Int) ∧
 List.map (fun (n : Int) => UInt8.ofNat n.toNat)
 [IntKind.u8.wrap (n.tdiv (256 : Int)), IntKind.u8.wrap (n.tmod (256 : Int))] =
 num2 n) :
 Con Try.prog f_ref_twoBytes ref_twoBytes_ct := ⟨ref_twoBytes_ok.able, fun x hx =>
 con_eq hC (L := []) (trivial) ref_twoBytes_ok (ct := ref_twoBytes_ct) (depth := 3) rfl (by kernel_rfl) x (H (@id (Int) x) (mpr' hx (by kernel_rfl))) (by kernel_rfl)⟩

theorem ref_LogSaved_vc (hC : Cons Try.prog [(f_ref_LogFault, ref_LogFault_ct), (f_ref_PolyOf, ref_PolyOf_ct), (f_ref_twoBytes, ref_twoBytes_ct)])
 (H : ∀ (s : List UInt8) (l : List (Int × Int × Int × List UInt8)), (True) →
 True ∧
 (logFault s l ≠ (0 : Int) → [] = (logSave s l).fst ∧ logFault s l = (logSave s l).snd) ∧
 (¬logFault s l ≠ (0 : Int) →
 ((0 : Int) ≤ (↑s.length : Int) ∧ (↑s.length : Int) ≤ (4611686018427387904 : Int)) ∧
 inI64 ((↑(4 : Nat) : Int) + (↑(List.length (num2 (↑s.length : Int))) : Int)) ∧
 inI64
 ((↑([(70 : UInt8), (85 : UInt8), (83 : UInt8), (49 : UInt8)] ++ num2 (↑s.length : Int)).length : Int) +
 (↑s.length : Int)) ∧
 ((0 : Int) ≤ (↑l.length : Int) ∧ (↑l.length : Int) ≤ (4611686018427387904 : Int)) ∧
 inI64
 ((↑([(70 : UInt8), (85 : UInt8), (83 : UInt8), (49 : UInt8)] ++ num2 (↑s.length : Int) ++ s).length :
 Int) +
 (↑(List.length (num2 (↑l.length : Int))) : Int)) ∧
 ∃ (I : List UInt8 → Int → Prop),
 ∃ (m : List UInt8 → Int → Nat),
 I
 ([(70 : UInt8), (85 : UInt8), (83 : UInt8), (49 : UInt8)] ++ num2 (↑s.length : Int) ++ s ++
 num2 (↑l.length : Int))
 (0 : Int) ∧
 ∀ (out : List UInt8) (x : Int),
 I out x →
 (x < (↑l.length : Int) →
 (0 : Int) ≤ x ∧
 x < (↑l.length : Int) ∧
 inI64
 ((↑out.length : Int) +
 (↑(List.map (fun (n : Int) => UInt8.ofNat n.toNat)
 [IntKind.u8.wrap (gt l x).fst]).length :
 Int)) ∧
 ((gt l x).fst = (1 : Int) →
 ((0 : Int) ≤ (gt l x).snd.fst ∧
 (gt l x).snd.fst ≤ (4611686018427387904 : Int)) ∧
 ((0 : Int) ≤ (gt l x).snd.snd.fst ∧
 (gt l x).snd.snd.fst ≤ (4611686018427387904 : Int)) ∧
 inI64
 ((↑(List.length (num2 (gt l x).snd.fst)) : Int) +
 (↑(List.length (num2 (gt l x).snd.snd.fst)) : Int)) ∧
 ((0 : Int) ≤ (↑(gt l x).snd.snd.snd.length : Int) ∧
 (↑(gt l x).snd.snd.snd.length : Int) ≤ (4611686018427387904 : Int)) ∧
 inI64
 ((↑(num2 (gt l x).snd.fst ++ num2 (gt l x).snd.snd.fst).length :
 Int) +
 (↑(List.length (num2 (↑(gt l x).snd.snd.snd.length : Int))) :
 Int)) ∧
 inI64
 ((↑(num2 (gt l x).snd.fst ++ num2 (gt l x).snd.snd.fst ++
 num2 (↑(gt l x).snd.snd.snd.length : Int)).length :
 Int) +
 (↑(gt l x).snd.snd.snd.length : Int)) ∧
 inI64
 ((↑(out ++
 List.map (fun (n : Int) => UInt8.ofNat n.toNat)
 [IntKind.u8.wrap (gt l x).fst]).length :
 Int) +
 (↑(num2 (gt l x).snd.fst ++ num2 (gt l x).snd.snd.fst ++
 num2 (↑(gt l x).snd.snd.snd.length : Int) ++
 (gt l x).snd.snd.snd).length :
 Int)) ∧
 inI64 (x + (1 : Int)) ∧
 I
 (out ++
 List.map (fun (n : Int) => UInt8.ofNat n.toNat)
 [IntKind.u8.wrap (gt l x).fst] ++
 (num2 (gt l x).snd.fst ++ num2 (gt l x).snd.snd.fst ++
 num2 (↑(gt l x).snd.snd.snd.length : Int) ++
 (gt l x).snd.snd.snd))
 (x + (1 : Int)) ∧
 m
 (out ++
 List.map (fun (n : Int) => UInt8.ofNat n.toNat)
 [IntKind.u8.wrap (gt l x).fst] ++
 (num2 (gt l x).snd.fst ++ num2 (gt l x).snd.snd.fst ++
 num2 (↑(gt l x).snd.snd.snd.length : Int) ++
 (gt l x).snd.snd.snd))
 (x + (1 : Int)) <
 m out x) ∧
 (¬(gt l x).fst = (1 : Int) →
 inI64 (x + (1 : Int)) ∧
 I
 (out ++
 List.map (fun (n : Int) => UInt8.ofNat n.toNat)
 [IntKind.u8.wrap (gt l x).fst])
 (x + (1 : Int)) ∧
 m
 (out ++
 List.map (fun (n : Int) => UInt8.ofNat n.toNat)
 [IntKind.u8.wrap (gt l x).fst])
 (x + (1 : Int)) <
 m out x)) ∧
 (¬x < (↑l.length : Int) →
 fitS out ∧
 (65536 : Int) ≠ (0 : Int) ∧
 inI64 ((polyOf out).fst.tdiv (65536 : Int)) ∧
 ((0 : Int) ≤ (polyOf out).fst.tdiv (65536 : Int) ∧
 (polyOf out).fst.tdiv (65536 : Int) ≤ (4611686018427387904 : Int)) ∧
 inI64
 ((↑out.length : Int) +
 (↑(List.length (num2 ((polyOf out).fst.tdiv (65536 : Int)))) : Int)) ∧
 (65536 : Int) ≠ (0 : Int) ∧
 ((0 : Int) ≤ (polyOf out).fst.tmod (65536 : Int) ∧
 (polyOf out).fst.tmod (65536 : Int) ≤ (4611686018427387904 : Int)) ∧
 inI64
 ((↑(out ++ num2 ((polyOf out).fst.tdiv (65536 : Int))).length : Int) +
 (↑(List.length (num2 ((polyOf out).fst.tmod (65536 : Int)))) : Int)) ∧
 List.map (fun (c : UInt8) => (↑c.toNat : Int))
 (out ++ num2 ((polyOf out).fst.tdiv (65536 : Int)) ++
 num2 ((polyOf out).fst.tmod (65536 : Int))) =
 (logSave s l).fst ∧
 (0 : Int) = (logSave s l).snd))) :
 Con Try.prog f_ref_LogSaved ref_LogSaved_ct := ⟨ref_LogSaved_ok.able, fun x hx =>
 con_eq hC (L := []) (trivial) ref_LogSaved_ok (ct := ref_LogSaved_ct) (depth := 4) rfl (by kernel_rfl) x (H (@id (List UInt8 × (List (Int × Int × Int × List UInt8))) x).1 (@id (List UInt8 × (List (Int × Int × Int × List UInt8))) x).2 (mpr' hx (by kernel_rfl))) (by kernel_rfl)⟩

theorem ref_LogLoaded_1_vc (hC : Cons Try.prog [])
 (H : ∀ (at_ : Int) (k : Int) (over : Bool) (b : List Int), (rfPre (at_, k, over, b)) →
 inI64 (at_ + 2) ∧
 (k < at_ + 2 →
 at_ = (rfNum (at_, k, over, b)).2.1 ∧
 k = (rfNum (at_, k, over, b)).2.2.1 ∧
 true = (rfNum (at_, k, over, b)).2.2.2.1 ∧
 b = (rfNum (at_, k, over, b)).2.2.2.2 ∧ 0 = (rfNum (at_, k, over, b)).fst) ∧
 (¬k < at_ + 2 →
 inI64 (at_ + 2) ∧
 inI64 (at_ + 2 - 2) ∧
 0 ≤ at_ + 2 - 2 ∧
 at_ + 2 - 2 < (↑b.length : Int) ∧
 inI64 (gt b (at_ + 2 - 2)) ∧
 inI64 (256 * gt b (at_ + 2 - 2)) ∧
 inI64 (at_ + 2 - 1) ∧
 0 ≤ at_ + 2 - 1 ∧
 at_ + 2 - 1 < (↑b.length : Int) ∧
 inI64 (gt b (at_ + 2 - 1)) ∧
 inI64 (256 * gt b (at_ + 2 - 2) + gt b (at_ + 2 - 1)) ∧
 at_ + 2 = (rfNum (at_, k, over, b)).2.1 ∧
 k = (rfNum (at_, k, over, b)).2.2.1 ∧
 over = (rfNum (at_, k, over, b)).2.2.2.1 ∧
 b = (rfNum (at_, k, over, b)).2.2.2.2 ∧
 256 * gt b (at_ + 2 - 2) + gt b (at_ + 2 - 1) = (rfNum (at_, k, over, b)).fst)) :
 ConM Try.prog f_ref_LogLoaded_1 ref_LogLoaded_1_cm := ⟨ref_LogLoaded_1_ok.able, by kernel_rfl, fun vs x hx =>
 conM_eq hC (L := []) (trivial) ref_LogLoaded_1_ok (c := ref_LogLoaded_1_cm) (depth := 4) rfl (by kernel_rfl) (by kernel_rfl) vs x (H (@id (Int × Int × Bool × List Int) x).1 (@id (Int × Int × Bool × List Int) x).2.1 (@id (Int × Int × Bool × List Int) x).2.2.1 (@id (Int × Int × Bool × List Int) x).2.2.2 (mpr' hx (by kernel_rfl))) (by kernel_rfl)⟩

theorem ref_LogLoaded_vc (hC : Cons Try.prog [(f_ref_PolyOf, ref_PolyOf_ct), (f_ref_LogSaved, ref_LogSaved_ct)]) (hU_ref_LogLoaded_1 : ConM Try.prog f_ref_LogLoaded_1 ref_LogLoaded_1_cm)
 (H : ∀ (b : List Int), (bytesOk b ∧ fitL b) →
 ((↑b.length : Int) < (12 : Int) → [] = (logLoad b).fst ∧ [] = (logLoad b).snd.fst ∧ (5 : Int) = (logLoad b).snd.snd) ∧
 (¬(↑b.length : Int) < (12 : Int) →
 inI64 ((↑b.length : Int) - (4 : Int)) ∧
 (0 : Int) ≤ (↑b.length : Int) - (4 : Int) ∧
 (↑b.length : Int) - (4 : Int) ≤ (↑b.length : Int) ∧
 (↑b.length : Int) ≤ (↑b.length : Int) ∧
 ∃ (I : Int → Int → Prop),
 ∃ (m : Int → Int → Nat),
 (b = b ∧ (↑b.length : Int) - (4 : Int) = (↑b.length : Int) - (4 : Int) ∧ I (0 : Int) (0 : Int)) ∧
 ∀ (sum x : Int),
 I sum x →
 (x <
 (↑(List.drop ((↑b.length : Int) - (4 : Int)).toNat
 (List.take (↑b.length : Int).toNat b)).length :
 Int) →
 (0 : Int) ≤ x ∧
 x <
 (↑(List.drop ((↑b.length : Int) - (4 : Int)).toNat
 (List.take (↑b.length : Int).toNat b)).length :
 Int) ∧
 inI64 ((256 : Int) * sum) ∧
 inI64
 (gt
 (List.drop ((↑b.length : Int) - (4 : Int)).toNat
 (List.take (↑b.length : Int).toNat b))
 x) ∧
 inI64
 ((256 : Int) * sum +
 gt
 (List.drop ((↑b.length : Int) - (4 : Int)).toNat
 (List.take (↑b.length : Int).toNat b))
 x) ∧
 inI64 (x + (1 : Int)) ∧
 b = b ∧
 (↑b.length : Int) - (4 : Int) = (↑b.length : Int) - (4 : Int) ∧
 I
 ((256 : Int) * sum +
 gt
 (List.drop ((↑b.length : Int) - (4 : Int)).toNat
 (List.take (↑b.length : Int).toNat b))
 x)
 (x + (1 : Int)) ∧
 m
 ((256 : Int) * sum +
 gt
 (List.drop ((↑b.length : Int) - (4 : Int)).toNat
 (List.take (↑b.length : Int).toNat b))
 x)
 (x + (1 : Int)) <
 m sum x) ∧
 (¬x <
 (↑(List.drop ((↑b.length : Int) - (4 : Int)).toNat
 (List.take (↑b.length : Int).toNat b)).length :
 Int) →
 (0 : Int) ≤ (0 : Int) ∧
 (0 : Int) ≤ (↑b.length : Int) - (4 : Int) ∧
 (↑b.length : Int) - (4 : Int) ≤ (↑b.length : Int) ∧
 fitS
 (List.map (fun (n : Int) => UInt8.ofNat n.toNat)
 (List.drop (Int.toNat (0 : Int))
 (List.take ((↑b.length : Int) - (4 : Int)).toNat b))) ∧
 ((polyOf
 (List.map (fun (n : Int) => UInt8.ofNat n.toNat)
 (List.drop (Int.toNat (0 : Int))
 (List.take ((↑b.length : Int) - (4 : Int)).toNat b)))).fst ≠
 sum →
 [] = (logLoad b).fst ∧
 [] = (logLoad b).snd.fst ∧ (6 : Int) = (logLoad b).snd.snd) ∧
 (¬(polyOf
 (List.map (fun (n : Int) => UInt8.ofNat n.toNat)
 (List.drop (Int.toNat (0 : Int))
 (List.take ((↑b.length : Int) - (4 : Int)).toNat b)))).fst ≠
 sum →
 rfPre ((4 : Int), (↑b.length : Int) - (4 : Int), false, b) ∧
 (¬(rfNum ((4 : Int), (↑b.length : Int) - (4 : Int), false, b)).2.2.2.1 = true →
 inI64
 ((rfNum ((4 : Int), (↑b.length : Int) - (4 : Int), false, b)).2.1 +
 (rfNum ((4 : Int), (↑b.length : Int) - (4 : Int), false, b)).fst)) ∧
 ((rfNum ((4 : Int), (↑b.length : Int) - (4 : Int), false, b)).2.2.2.1 = true ∨
 (rfNum ((4 : Int), (↑b.length : Int) - (4 : Int), false, b)).2.2.1 <
 (rfNum ((4 : Int), (↑b.length : Int) - (4 : Int), false, b)).2.1 +
 (rfNum ((4 : Int), (↑b.length : Int) - (4 : Int), false, b)).fst →
 rfPre
 ((rfNum ((4 : Int), (↑b.length : Int) - (4 : Int), false, b)).2.1,
 (rfNum ((4 : Int), (↑b.length : Int) - (4 : Int), false, b)).2.2.1,
 true,
 (rfNum
 ((4 : Int), (↑b.length : Int) - (4 : Int), false,
 b)).2.2.2.2) ∧
 ∃ (I :
 Int →
 List Int →
 Int → Int → Bool → List (Int × Int × Int × List UInt8) → Prop),
 ∃ (m :
 Int →
 List Int →
 Int → Int → Bool → List (Int × Int × Int × List UInt8) → Nat),
 I (0 : Int)
 (rfNum
 ((rfNum
 ((4 : Int), (↑b.length : Int) - (4 : Int),
 false, b)).2.1,
 (rfNum
 ((4 : Int), (↑b.length : Int) - (4 : Int),
 false, b)).2.2.1,
 true,
 (rfNum
 ((4 : Int), (↑b.length : Int) - (4 : Int),
 false, b)).2.2.2.2)).2.2.2.2
 (rfNum
 ((rfNum
 ((4 : Int), (↑b.length : Int) - (4 : Int),
 false, b)).2.1,
 (rfNum
 ((4 : Int), (↑b.length : Int) - (4 : Int),
 false, b)).2.2.1,
 true,
 (rfNum
 ((4 : Int), (↑b.length : Int) - (4 : Int),
 false, b)).2.2.2.2)).2.2.1
 (rfNum
 ((rfNum
 ((4 : Int), (↑b.length : Int) - (4 : Int), false,
 b)).2.1,
 (rfNum
 ((4 : Int), (↑b.length : Int) - (4 : Int),
 false, b)).2.2.1,
 true,
 (rfNum
 ((4 : Int), (↑b.length : Int) - (4 : Int),
 false, b)).2.2.2.2)).2.1
 (rfNum
 ((rfNum
 ((4 : Int), (↑b.length : Int) - (4 : Int),
 false, b)).2.1,
 (rfNum
 ((4 : Int), (↑b.length : Int) - (4 : Int),
 false, b)).2.2.1,
 true,
 (rfNum
 ((4 : Int), (↑b.length : Int) - (4 : Int),
 false, b)).2.2.2.2)).2.2.2.1
 [] ∧
 ∀ (i : Int) (num : List Int) (num_1 at_ : Int) (over : Bool)
 (l : List (Int × Int × Int × List UInt8)),
 I i num num_1 at_ over l →
 (i <
 (rfNum
 ((rfNum
 ((4 : Int), (↑b.length : Int) - (4 : Int),
 false, b)).2.1,
 (rfNum
 ((4 : Int),
 (↑b.length : Int) - (4 : Int), false,
 b)).2.2.1,
 true,
 (rfNum
 ((4 : Int),
 (↑b.length : Int) - (4 : Int),
 false, b)).2.2.2.2)).fst ∧
 ¬over = true →
 (num_1 ≤ at_ →
 [] = (logLoad b).fst ∧
 [] = (logLoad b).snd.fst ∧
 (4 : Int) = (logLoad b).snd.snd) ∧
 (¬num_1 ≤ at_ →
 (0 : Int) ≤ at_ ∧
 at_ < (↑num.length : Int) ∧
 inI64 (gt num at_) ∧
 inI64 (at_ + (1 : Int)) ∧
 (gt num at_ = (1 : Int) →
 rfPre
 (at_ + (1 : Int), num_1, over, num) ∧
 rfPre
 (rfNum
 (at_ + (1 : Int), num_1, over,
 num)).2 ∧
 rfPre
 (rfNum
 (rfNum
 (at_ + (1 : Int), num_1,
 over, num)).2).2 ∧
 (¬(rfNum
 (rfNum
 (rfNum
 (at_ +
 (1 :
 Int),
 num_1,
 over,
 num)).2).2).2.2.2.1 =
 true →
 inI64
 ((rfNum
 (rfNum
 (rfNum
 (at_ +
 (1 : Int),
 num_1, over,
 num)).2).2).2.1 +
 (rfNum
 (rfNum
 (rfNum
 (at_ +
 (1 : Int),
 num_1, over,
 num)).2).2).fst)) ∧
 ((rfNum
 (rfNum
 (rfNum
 (at_ +
 (1 :
 Int),
 num_1,
 over,
 num)).2).2).2.2.2.1 =
 true ∨
 (rfNum
 (rfNum
 (rfNum
 (at_ +
 (1 :
 Int),
 num_1,
 over,
 num)).2).2).2.2.1 <
 (rfNum
 (rfNum
 (rfNum
 (at_ +
 (1 :
 Int),
 num_1,
 over,
 num)).2).2).2.1 +
 (rfNum
 (rfNum
 (rfNum
 (at_ +
 (1 :
 Int),
 num_1,
 over,
 num)).2).2).fst →
 (l.length + (1 : Nat)) *
 (40 : Nat) ≤
 (140737488355328 : Nat) ∧
 inI64 (i + (1 : Int)) ∧
 I (i + (1 : Int))
 (rfNum
 (rfNum
 (rfNum
 (at_ +
 (1 :
 Int),
 num_1,
 over,
 num)).2).2).2.2.2.2
 (rfNum
 (rfNum
 (rfNum
 (at_ +
 (1 :
 Int),
 num_1,
 over,
 num)).2).2).2.2.1
 (rfNum
 (rfNum
 (rfNum
 (at_ +
 (1 :
 Int),
 num_1,
 over,
 num)).2).2).2.1
 true
 (l ++
 [(gt num at_,
 (rfNum
 (at_ +
 (1 :
 Int),
 num_1,
 over,
 num)).fst,
 (rfNum
 (rfNum
 (at_ +
 (1 :
 Int),
 num_1,
 over,
 num)).2).fst,
 [])]) ∧
 m (i + (1 : Int))
 (rfNum
 (rfNum
 (rfNum
 (at_ +
 (1 :
 Int),
 num_1,
 over,
 num)).2).2).2.2.2.2
 (rfNum
 (rfNum
 (rfNum
 (at_ +
 (1 :
 Int),
 num_1,
 over,
 num)).2).2).2.2.1
 (rfNum
 (rfNum
 (rfNum
 (at_ +
 (1 :
 Int),
 num_1,
 over,
 num)).2).2).2.1
 true
 (l ++
 [(gt num at_,
 (rfNum
 (at_ +
 (1 :
 Int),
 num_1,
 over,
 num)).fst,
 (rfNum
 (rfNum
 (at_ +
 (1 :
 Int),
 num_1,
 over,
 num)).2).fst,
 [])]) <
 m i num num_1 at_ over
 l) ∧
 (¬((rfNum
 (rfNum
 (rfNum
 (at_ +
 (1 :
 Int),
 num_1,
 over,
 num)).2).2).2.2.2.1 =
 true ∨
 (rfNum
 (rfNum
 (rfNum
 (at_ +
 (1 :
 Int),
 num_1,
 over,
 num)).2).2).2.2.1 <
 (rfNum
 (rfNum
 (rfNum
 (at_ +
 (1 :
 Int),
 num_1,
 over,
 num)).2).2).2.1 +
 (rfNum
 (rfNum
 (rfNum
 (at_ +
 (1 :
 Int),
 num_1,
 over,
 num)).2).2).fst) →
 inI64
 ((rfNum
 (rfNum
 (rfNum
 (at_ +
 (1 :
 Int),
 num_1,
 over,
 num)).2).2).2.1 +
 (rfNum
 (rfNum
 (rfNum
 (at_ +
 (1 :
 Int),
 num_1,
 over,
 num)).2).2).fst) ∧
 inI64
 ((rfNum
 (rfNum
 (rfNum
 (at_ +
 (1 :
 Int),
 num_1,
 over,
 num)).2).2).2.1 +
 (rfNum
 (rfNum
 (rfNum
 (at_ +
 (1 :
 Int),
 num_1,
 over,
 num)).2).2).fst -
 (rfNum
 (rfNum
 (rfNum
 (at_ +
 (1 :
 Int),
 num_1,
 over,
 num)).2).2).fst) ∧
 (0 : Int) ≤
 (rfNum
 (rfNum
 (rfNum
 (at_ +
 (1 :
 Int),
 num_1,
 over,
 num)).2).2).2.1 +
 (rfNum
 (rfNum
 (rfNum
 (at_ +
 (1 :
 Int),
 num_1,
 over,
 num)).2).2).fst -
 (rfNum
 (rfNum
 (rfNum
 (at_ +
 (1 :
 Int),
 num_1,
 over,
 num)).2).2).fst ∧
 (rfNum
 (rfNum
 (rfNum
 (at_ +
 (1 :
 Int),
 num_1,
 over,
 num)).2).2).2.1 +
 (rfNum
 (rfNum
 (rfNum
 (at_ +
 (1 :
 Int),
 num_1,
 over,
 num)).2).2).fst -
 (rfNum
 (rfNum
 (rfNum
 (at_ +
 (1 :
 Int),
 num_1,
 over,
 num)).2).2).fst ≤
 (rfNum
 (rfNum
 (rfNum
 (at_ +
 (1 :
 Int),
 num_1,
 over,
 num)).2).2).2.1 +
 (rfNum
 (rfNum
 (rfNum
 (at_ +
 (1 :
 Int),
 num_1,
 over,
 num)).2).2).fst ∧
 (rfNum
 (rfNum
 (rfNum
 (at_ +
 (1 :
 Int),
 num_1,
 over,
 num)).2).2).2.1 +
 (rfNum
 (rfNum
 (rfNum
 (at_ +
 (1 :
 Int),
 num_1,
 over,
 num)).2).2).fst ≤
 (↑(rfNum
 (rfNum
 (rfNum
 (at_ +
 (1 :
 Int),
 num_1,
 over,
 num)).2).2).2.2.2.2.length :
 Int) ∧
 (l.length +
 (1 : Nat)) *
 (40 : Nat) ≤
 (140737488355328 :
 Nat) ∧
 inI64
 (i +
 (1 : Int)) ∧
 I
 (i +
 (1 : Int))
 (rfNum
 (rfNum
 (rfNum
 (at_ +
 (1 :
 Int),
 num_1,
 over,
 num)).2).2).2.2.2.2
 (rfNum
 (rfNum
 (rfNum
 (at_ +
 (1 :
 Int),
 num_1,
 over,
 num)).2).2).2.2.1
 ((rfNum
 (rfNum
 (rfNum
 (at_ +
 (1 :
 Int),
 num_1,
 over,
 num)).2).2).2.1 +
 (rfNum
 (rfNum
 (rfNum
 (at_ +
 (1 :
 Int),
 num_1,
 over,
 num)).2).2).fst)
 (rfNum
 (rfNum
 (rfNum
 (at_ +
 (1 :
 Int),
 num_1,
 over,
 num)).2).2).2.2.2.1
 (l ++
 [(gt num
 at_,
 (rfNum
 (at_ +
 (1 :
 Int),
 num_1,
 over,
 num)).fst,
 (rfNum
 (rfNum
 (at_ +
 (1 :
 Int),
 num_1,
 over,
 num)).2).fst,
 List.map
 (fun
 (n :
 Int) =>
 UInt8.ofNat
 n.toNat)
 (List.drop
 ((rfNum
 (rfNum
 (rfNum
 (at_ +
 (1 :
 Int),
 num_1,
 over,
 num)).2).2).2.1 +
 (rfNum
 (rfNum
 (rfNum
 (at_ +
 (1 :
 Int),
 num_1,
 over,
 num)).2).2).fst -
 (rfNum
 (rfNum
 (rfNum
 (at_ +
 (1 :
 Int),
 num_1,
 over,
 num)).2).2).fst).toNat
 (List.take
 ((rfNum
 (rfNum
 (rfNum
 (at_ +
 (1 :
 Int),
 num_1,
 over,
 num)).2).2).2.1 +
 (rfNum
 (rfNum
 (rfNum
 (at_ +
 (1 :
 Int),
 num_1,
 over,
 num)).2).2).fst).toNat
 (rfNum
 (rfNum
 (rfNum
 (at_ +
 (1 :
 Int),
 num_1,
 over,
 num)).2).2).2.2.2.2)))]) ∧
 m
 (i +
 (1 :
 Int))
 (rfNum
 (rfNum
 (rfNum
 (at_ +
 (1 :
 Int),
 num_1,
 over,
 num)).2).2).2.2.2.2
 (rfNum
 (rfNum
 (rfNum
 (at_ +
 (1 :
 Int),
 num_1,
 over,
 num)).2).2).2.2.1
 ((rfNum
 (rfNum
 (rfNum
 (at_ +
 (1 :
 Int),
 num_1,
 over,
 num)).2).2).2.1 +
 (rfNum
 (rfNum
 (rfNum
 (at_ +
 (1 :
 Int),
 num_1,
 over,
 num)).2).2).fst)
 (rfNum
 (rfNum
 (rfNum
 (at_ +
 (1 :
 Int),
 num_1,
 over,
 num)).2).2).2.2.2.1
 (l ++
 [(gt num
 at_,
 (rfNum
 (at_ +
 (1 :
 Int),
 num_1,
 over,
 num)).fst,
 (rfNum
 (rfNum
 (at_ +
 (1 :
 Int),
 num_1,
 over,
 num)).2).fst,
 List.map
 (fun
 (n :
 Int) =>
 UInt8.ofNat
 n.toNat)
 (List.drop
 ((rfNum
 (rfNum
 (rfNum
 (at_ +
 (1 :
 Int),
 num_1,
 over,
 num)).2).2).2.1 +
 (rfNum
 (rfNum
 (rfNum
 (at_ +
 (1 :
 Int),
 num_1,
 over,
 num)).2).2).fst -
 (rfNum
 (rfNum
 (rfNum
 (at_ +
 (1 :
 Int),
 num_1,
 over,
 num)).2).2).fst).toNat
 (List.take
 ((rfNum
 (rfNum
 (rfNum
 (at_ +
 (1 :
 Int),
 num_1,
 over,
 num)).2).2).2.1 +
 (rfNum
 (rfNum
 (rfNum
 (at_ +
 (1 :
 Int),
 num_1,
 over,
 num)).2).2).fst).toNat
 (rfNum
 (rfNum
 (rfNum
 (at_ +
 (1 :
 Int),
 num_1,
 over,
 num)).2).2).2.2.2.2)))]) <
 m i num
 num_1 at_
 over l)) ∧
 (¬gt num at_ = (1 : Int) →
 (l.length + (1 : Nat)) * (40 : Nat) ≤
 (140737488355328 : Nat) ∧
 inI64 (i + (1 : Int)) ∧
 I (i + (1 : Int)) num num_1
 (at_ + (1 : Int)) over
 (l ++
 [(gt num at_, (0 : Int),
 (0 : Int), [])]) ∧
 m (i + (1 : Int)) num num_1
 (at_ + (1 : Int)) over
 (l ++
 [(gt num at_, (0 : Int),
 (0 : Int), [])]) <
 m i num num_1 at_ over l))) ∧
 (¬(i <
 (rfNum
 ((rfNum
 ((4 : Int),
 (↑b.length : Int) - (4 : Int), false,
 b)).2.1,
 (rfNum
 ((4 : Int),
 (↑b.length : Int) - (4 : Int),
 false, b)).2.2.1,
 true,
 (rfNum
 ((4 : Int),
 (↑b.length : Int) - (4 : Int),
 false, b)).2.2.2.2)).fst ∧
 ¬over = true) →
 (over = true →
 [] = (logLoad b).fst ∧
 [] = (logLoad b).snd.fst ∧
 (4 : Int) = (logLoad b).snd.snd) ∧
 (¬over = true →
 True ∧
 ((logSave [] l).snd ≠ (0 : Int) ∨
 List.map
 (fun (n : Int) => UInt8.ofNat n.toNat)
 (logSave [] l).fst ≠
 List.map
 (fun (n : Int) => UInt8.ofNat n.toNat)
 num →
 [] = (logLoad b).fst ∧
 [] = (logLoad b).snd.fst ∧
 (4 : Int) = (logLoad b).snd.snd) ∧
 (¬((logSave [] l).snd ≠ (0 : Int) ∨
 List.map
 (fun (n : Int) => UInt8.ofNat n.toNat)
 (logSave [] l).fst ≠
 List.map
 (fun (n : Int) => UInt8.ofNat n.toNat)
 num) →
 [] = (logLoad b).fst ∧
 l = (logLoad b).snd.fst ∧
 (0 : Int) = (logLoad b).snd.snd)))) ∧
 (¬((rfNum ((4 : Int), (↑b.length : Int) - (4 : Int), false, b)).2.2.2.1 =
 true ∨
 (rfNum ((4 : Int), (↑b.length : Int) - (4 : Int), false, b)).2.2.1 <
 (rfNum ((4 : Int), (↑b.length : Int) - (4 : Int), false, b)).2.1 +
 (rfNum
 ((4 : Int), (↑b.length : Int) - (4 : Int), false, b)).fst) →
 inI64
 ((rfNum ((4 : Int), (↑b.length : Int) - (4 : Int), false, b)).2.1 +
 (rfNum ((4 : Int), (↑b.length : Int) - (4 : Int), false, b)).fst) ∧
 inI64
 ((rfNum ((4 : Int), (↑b.length : Int) - (4 : Int), false, b)).2.1 +
 (rfNum
 ((4 : Int), (↑b.length : Int) - (4 : Int), false, b)).fst -
 (rfNum
 ((4 : Int), (↑b.length : Int) - (4 : Int), false, b)).fst) ∧
 (0 : Int) ≤
 (rfNum ((4 : Int), (↑b.length : Int) - (4 : Int), false, b)).2.1 +
 (rfNum
 ((4 : Int), (↑b.length : Int) - (4 : Int), false,
 b)).fst -
 (rfNum
 ((4 : Int), (↑b.length : Int) - (4 : Int), false, b)).fst ∧
 (rfNum ((4 : Int), (↑b.length : Int) - (4 : Int), false, b)).2.1 +
 (rfNum
 ((4 : Int), (↑b.length : Int) - (4 : Int), false,
 b)).fst -
 (rfNum
 ((4 : Int), (↑b.length : Int) - (4 : Int), false,
 b)).fst ≤
 (rfNum
 ((4 : Int), (↑b.length : Int) - (4 : Int), false,
 b)).2.1 +
 (rfNum
 ((4 : Int), (↑b.length : Int) - (4 : Int), false,
 b)).fst ∧
 (rfNum ((4 : Int), (↑b.length : Int) - (4 : Int), false, b)).2.1 +
 (rfNum
 ((4 : Int), (↑b.length : Int) - (4 : Int), false,
 b)).fst ≤
 (↑(rfNum
 ((4 : Int), (↑b.length : Int) - (4 : Int),
 false, b)).2.2.2.2.length :
 Int) ∧
 rfPre
 ((rfNum
 ((4 : Int), (↑b.length : Int) - (4 : Int), false,
 b)).2.1 +
 (rfNum
 ((4 : Int), (↑b.length : Int) - (4 : Int), false,
 b)).fst,
 (rfNum
 ((4 : Int), (↑b.length : Int) - (4 : Int), false,
 b)).2.2) ∧
 ∃ (I :
 Int →
 List Int →
 Int →
 Int →
 Bool → List (Int × Int × Int × List UInt8) → Prop),
 ∃ (m :
 Int →
 List Int →
 Int →
 Int →
 Bool → List (Int × Int × Int × List UInt8) → Nat),
 I (0 : Int)
 (rfNum
 ((rfNum
 ((4 : Int),
 (↑b.length : Int) - (4 : Int),
 false, b)).2.1 +
 (rfNum
 ((4 : Int),
 (↑b.length : Int) - (4 : Int),
 false, b)).fst,
 (rfNum
 ((4 : Int),
 (↑b.length : Int) - (4 : Int),
 false, b)).2.2)).2.2.2.2
 (rfNum
 ((rfNum
 ((4 : Int),
 (↑b.length : Int) - (4 : Int),
 false, b)).2.1 +
 (rfNum
 ((4 : Int),
 (↑b.length : Int) - (4 : Int),
 false, b)).fst,
 (rfNum
 ((4 : Int),
 (↑b.length : Int) - (4 : Int),
 false, b)).2.2)).2.2.1
 (rfNum
 ((rfNum
 ((4 : Int),
 (↑b.length : Int) - (4 : Int),
 false, b)).2.1 +
 (rfNum
 ((4 : Int),
 (↑b.length : Int) - (4 : Int), false,
 b)).fst,
 (rfNum
 ((4 : Int),
 (↑b.length : Int) - (4 : Int), false,
 b)).2.2)).2.1
 (rfNum
 ((rfNum
 ((4 : Int),
 (↑b.length : Int) - (4 : Int),
 false, b)).2.1 +
 (rfNum
 ((4 : Int),
 (↑b.length : Int) - (4 : Int),
 false, b)).fst,
 (rfNum
 ((4 : Int),
 (↑b.length : Int) - (4 : Int),
 false, b)).2.2)).2.2.2.1
 [] ∧
 ∀ (i : Int) (num : List Int) (num_1 at_ : Int)
 (over : Bool)
 (l : List (Int × Int × Int × List UInt8)),
 I i num num_1 at_ over l →
 (i <
 (rfNum
 ((rfNum
 ((4 : Int),
 (↑b.length : Int) -
 (4 : Int),
 false, b)).2.1 +
 (rfNum
 ((4 : Int),
 (↑b.length : Int) - (4 : Int),
 false, b)).fst,
 (rfNum
 ((4 : Int),
 (↑b.length : Int) - (4 : Int),
 false, b)).2.2)).fst ∧
 ¬over = true →
 (num_1 ≤ at_ →
 [] = (logLoad b).fst ∧
 [] = (logLoad b).snd.fst ∧
 (4 : Int) = (logLoad b).snd.snd) ∧
 (¬num_1 ≤ at_ →
 (0 : Int) ≤ at_ ∧
 at_ < (↑num.length : Int) ∧
 inI64 (gt num at_) ∧
 inI64 (at_ + (1 : Int)) ∧
 (gt num at_ = (1 : Int) →
 rfPre
 (at_ + (1 : Int), num_1,
 over, num) ∧
 rfPre
 (rfNum
 (at_ + (1 : Int),
 num_1, over,
 num)).2 ∧
 rfPre
 (rfNum
 (rfNum
 (at_ +
 (1 : Int),
 num_1, over,
 num)).2).2 ∧
 (¬(rfNum
 (rfNum
 (rfNum
 (at_ +
 (1 :
 Int),
 num_1,
 over,
 num)).2).2).2.2.2.1 =
 true →
 inI64
 ((rfNum
 (rfNum
 (rfNum
 (at_ +
 (1 :
 Int),
 num_1,
 over,
 num)).2).2).2.1 +
 (rfNum
 (rfNum
 (rfNum
 (at_ +
 (1 :
 Int),
 num_1,
 over,
 num)).2).2).fst)) ∧
 ((rfNum
 (rfNum
 (rfNum
 (at_ +
 (1 :
 Int),
 num_1,
 over,
 num)).2).2).2.2.2.1 =
 true ∨
 (rfNum
 (rfNum
 (rfNum
 (at_ +
 (1 :
 Int),
 num_1,
 over,
 num)).2).2).2.2.1 <
 (rfNum
 (rfNum
 (rfNum
 (at_ +
 (1 :
 Int),
 num_1,
 over,
 num)).2).2).2.1 +
 (rfNum
 (rfNum
 (rfNum
 (at_ +
 (1 :
 Int),
 num_1,
 over,
 num)).2).2).fst →
 (l.length +
 (1 : Nat)) *
 (40 : Nat) ≤
 (140737488355328 :
 Nat) ∧
 inI64
 (i +
 (1 : Int)) ∧
 I
 (i +
 (1 : Int))
 (rfNum
 (rfNum
 (rfNum
 (at_ +
 (1 :
 Int),
 num_1,
 over,
 num)).2).2).2.2.2.2
 (rfNum
 (rfNum
 (rfNum
 (at_ +
 (1 :
 Int),
 num_1,
 over,
 num)).2).2).2.2.1
 (rfNum
 (rfNum
 (rfNum
 (at_ +
 (1 :
 Int),
 num_1,
 over,
 num)).2).2).2.1
 true
 (l ++
 [(gt num
 at_,
 (rfNum
 (at_ +
 (1 :
 Int),
 num_1,
 over,
 num)).fst,
 (rfNum
 (rfNum
 (at_ +
 (1 :
 Int),
 num_1,
 over,
 num)).2).fst,
 [])]) ∧
 m
 (i +
 (1 :
 Int))
 (rfNum
 (rfNum
 (rfNum
 (at_ +
 (1 :
 Int),
 num_1,
 over,
 num)).2).2).2.2.2.2
 (rfNum
 (rfNum
 (rfNum
 (at_ +
 (1 :
 Int),
 num_1,
 over,
 num)).2).2).2.2.1
 (rfNum
 (rfNum
 (rfNum
 (at_ +
 (1 :
 Int),
 num_1,
 over,
 num)).2).2).2.1
 true
 (l ++
 [(gt num
 at_,
 (rfNum
 (at_ +
 (1 :
 Int),
 num_1,
 over,
 num)).fst,
 (rfNum
 (rfNum
 (at_ +
 (1 :
 Int),
 num_1,
 over,
 num)).2).fst,
 [])]) <
 m i num
 num_1 at_
 over l) ∧
 (¬((rfNum
 (rfNum
 (rfNum
 (at_ +
 (1 :
 Int),
 num_1,
 over,
 num)).2).2).2.2.2.1 =
 true ∨
 (rfNum
 (rfNum
 (rfNum
 (at_ +
 (1 :
 Int),
 num_1,
 over,
 num)).2).2).2.2.1 <
 (rfNum
 (rfNum
 (rfNum
 (at_ +
 (1 :
 Int),
 num_1,
 over,
 num)).2).2).2.1 +
 (rfNum
 (rfNum
 (rfNum
 (at_ +
 (1 :
 Int),
 num_1,
 over,
 num)).2).2).fst) →
 inI64
 ((rfNum
 (rfNum
 (rfNum
 (at_ +
 (1 :
 Int),
 num_1,
 over,
 num)).2).2).2.1 +
 (rfNum
 (rfNum
 (rfNum
 (at_ +
 (1 :
 Int),
 num_1,
 over,
 num)).2).2).fst) ∧
 inI64
 ((rfNum
 (rfNum
 (rfNum
 (at_ +
 (1 :
 Int),
 num_1,
 over,
 num)).2).2).2.1 +
 (rfNum
 (rfNum
 (rfNum
 (at_ +
 (1 :
 Int),
 num_1,
 over,
 num)).2).2).fst -
 (rfNum
 (rfNum
 (rfNum
 (at_ +
 (1 :
 Int),
 num_1,
 over,
 num)).2).2).fst) ∧
 (0 : Int) ≤
 (rfNum
 (rfNum
 (rfNum
 (at_ +
 (1 :
 Int),
 num_1,
 over,
 num)).2).2).2.1 +
 (rfNum
 (rfNum
 (rfNum
 (at_ +
 (1 :
 Int),
 num_1,
 over,
 num)).2).2).fst -
 (rfNum
 (rfNum
 (rfNum
 (at_ +
 (1 :
 Int),
 num_1,
 over,
 num)).2).2).fst ∧
 (rfNum
 (rfNum
 (rfNum
 (at_ +
 (1 :
 Int),
 num_1,
 over,
 num)).2).2).2.1 +
 (rfNum
 (rfNum
 (rfNum
 (at_ +
 (1 :
 Int),
 num_1,
 over,
 num)).2).2).fst -
 (rfNum
 (rfNum
 (rfNum
 (at_ +
 (1 :
 Int),
 num_1,
 over,
 num)).2).2).fst ≤
 (rfNum
 (rfNum
 (rfNum
 (at_ +
 (1 :
 Int),
 num_1,
 over,
 num)).2).2).2.1 +
 (rfNum
 (rfNum
 (rfNum
 (at_ +
 (1 :
 Int),
 num_1,
 over,
 num)).2).2).fst ∧
 (rfNum
 (rfNum
 (rfNum
 (at_ +
 (1 :
 Int),
 num_1,
 over,
 num)).2).2).2.1 +
 (rfNum
 (rfNum
 (rfNum
 (at_ +
 (1 :
 Int),
 num_1,
 over,
 num)).2).2).fst ≤
 (↑(rfNum
 (rfNum
 (rfNum
 (at_ +
 (1 :
 Int),
 num_1,
 over,
 num)).2).2).2.2.2.2.length :
 Int) ∧
 (l.length +
 (1 :
 Nat)) *
 (40 :
 Nat) ≤
 (140737488355328 :
 Nat) ∧
 inI64
 (i +
 (1 :
 Int)) ∧
 I
 (i +
 (1 :
 Int))
 (rfNum
 (rfNum
 (rfNum
 (at_ +
 (1 :
 Int),
 num_1,
 over,
 num)).2).2).2.2.2.2
 (rfNum
 (rfNum
 (rfNum
 (at_ +
 (1 :
 Int),
 num_1,
 over,
 num)).2).2).2.2.1
 ((rfNum
 (rfNum
 (rfNum
 (at_ +
 (1 :
 Int),
 num_1,
 over,
 num)).2).2).2.1 +
 (rfNum
 (rfNum
 (rfNum
 (at_ +
 (1 :
 Int),
 num_1,
 over,
 num)).2).2).fst)
 (rfNum
 (rfNum
 (rfNum
 (at_ +
 (1 :
 Int),
 num_1,
 over,
 num)).2).2).2.2.2.1
 (l ++
 [(gt
 num
 at_,
 (rfNum
 (at_ +
 (1 :
 Int),
 num_1,
 over,
 num)).fst,
 (rfNum
 (rfNum
 (at_ +
 (1 :
 Int),
 num_1,
 over,
 num)).2).fst,
 List.map
 (fun
 (n :
 Int) =>
 UInt8.ofNat
 n.toNat)
 (List.drop
 ((rfNum
 (rfNum
 (rfNum
 (at_ +
 (1 :
 Int),
 num_1,
 over,
 num)).2).2).2.1 +
 (rfNum
 (rfNum
 (rfNum
 (at_ +
 (1 :
 Int),
 num_1,
 over,
 num)).2).2).fst -
 (rfNum
 (rfNum
 (rfNum
 (at_ +
 (1 :
 Int),
 num_1,
 over,
 num)).2).2).fst).toNat
 (List.take
 ((rfNum
 (rfNum
 (rfNum
 (at_ +
 (1 :
 Int),
 num_1,
 over,
 num)).2).2).2.1 +
 (rfNum
 (rfNum
 (rfNum
 (at_ +
 (1 :
 Int),
 num_1,
 over,
 num)).2).2).fst).toNat
 (rfNum
 (rfNum
 (rfNum
 (at_ +
 (1 :
 Int),
 num_1,
 over,
 num)).2).2).2.2.2.2)))]) ∧
 m
 (i +
 (1 :
 Int))
 (rfNum
 (rfNum
 (rfNum
 (at_ +
 (1 :
 Int),
 num_1,
 over,
 num)).2).2).2.2.2.2
 (rfNum
 (rfNum
 (rfNum
 (at_ +
 (1 :
 Int),
 num_1,
 over,
 num)).2).2).2.2.1
 ((rfNum
 (rfNum
 (rfNum
 (at_ +
 (1 :
 Int),
 num_1,
 over,
 num)).2).2).2.1 +
 (rfNum
 (rfNum
 (rfNum
 (at_ +
 (1 :
 Int),
 num_1,
 over,
 num)).2).2).fst)
 (rfNum
 (rfNum
 (rfNum
 (at_ +
 (1 :
 Int),
 num_1,
 over,
 num)).2).2).2.2.2.1
 (l ++
 [(gt
 num
 at_,
 (rfNum
 (at_ +
 (1 :
 Int),
 num_1,
 over,
 num)).fst,
 (rfNum
 (rfNum
 (at_ +
 (1 :
 Int),
 num_1,
 over,
 num)).2).fst,
 List.map
 (fun
 (n :
 Int) =>
 UInt8.ofNat
 n.toNat)
 (List.drop
 ((rfNum
 (rfNum
 (rfNum
 (at_ +
 (1 :
 Int),
 num_1,
 over,
 num)).2).2).2.1 +
 (rfNum
 (rfNum
 (rfNum
 (at_ +
 (1 :
 Int),
 num_1,
 over,
 num)).2).2).fst -
 (rfNum
 (rfNum
 (rfNum
 (at_ +
 (1 :
 Int),
 num_1,
 over,
 num)).2).2).fst).toNat
 (List.take
 ((rfNum
 (rfNum
 (rfNum
 (at_ +
 (1 :
 Int),
 num_1,
 over,
 num)).2).2).2.1 +
 (rfNum
 (rfNum
 (rfNum
 (at_ +
 (1 :
 Int),
 num_1,
 over,
 num)).2).2).fst).toNat
 (rfNum
 (rfNum
 (rfNum
 (at_ +
 (1 :
 Int),
 num_1,
 over,
 num)).2).2).2.2.2.2)))]) <
 m
 i
 num
 num_1
 at_
 over
 l)) ∧
 (¬gt num at_ = (1 : Int) →
 (l.length + (1 : Nat)) *
 (40 : Nat) ≤
 (140737488355328 : Nat) ∧
 inI64 (i + (1 : Int)) ∧
 I (i + (1 : Int)) num num_1
 (at_ + (1 : Int)) over
 (l ++
 [(gt num at_,
 (0 : Int),
 (0 : Int), [])]) ∧
 m (i + (1 : Int)) num
 num_1
 (at_ + (1 : Int)) over
 (l ++
 [(gt num at_,
 (0 : Int),
 (0 : Int),
 [])]) <
 m i num num_1 at_ over
 l))) ∧
 (¬(i <
 (rfNum
 ((rfNum
 ((4 : Int),
 (↑b.length : Int) -
 (4 : Int),
 false, b)).2.1 +
 (rfNum
 ((4 : Int),
 (↑b.length : Int) -
 (4 : Int),
 false, b)).fst,
 (rfNum
 ((4 : Int),
 (↑b.length : Int) -
 (4 : Int),
 false, b)).2.2)).fst ∧
 ¬over = true) →
 (over = true →
 [] = (logLoad b).fst ∧
 [] = (logLoad b).snd.fst ∧
 (4 : Int) = (logLoad b).snd.snd) ∧
 (¬over = true →
 True ∧
 ((logSave
 (List.map
 (fun (n : Int) =>
 UInt8.ofNat n.toNat)
 (List.drop
 ((rfNum
 ((4 : Int),
 (↑b.length :
 Int) -
 (4 : Int),
 false,
 b)).2.1 +
 (rfNum
 ((4 : Int),
 (↑b.length :
 Int) -
 (4 : Int),
 false,
 b)).fst -
 (rfNum
 ((4 : Int),
 (↑b.length :
 Int) -
 (4 : Int),
 false,
 b)).fst).toNat
 (List.take
 ((rfNum
 ((4 : Int),
 (↑b.length :
 Int) -
 (4 : Int),
 false,
 b)).2.1 +
 (rfNum
 ((4 : Int),
 (↑b.length :
 Int) -
 (4 : Int),
 false,
 b)).fst).toNat
 (rfNum
 ((4 : Int),
 (↑b.length :
 Int) -
 (4 : Int),
 false,
 b)).2.2.2.2)))
 l).snd ≠
 (0 : Int) ∨
 List.map
 (fun (n : Int) =>
 UInt8.ofNat n.toNat)
 (logSave
 (List.map
 (fun (n : Int) =>
 UInt8.ofNat n.toNat)
 (List.drop
 ((rfNum
 ((4 : Int),
 (↑b.length :
 Int) -
 (4 :
 Int),
 false,
 b)).2.1 +
 (rfNum
 ((4 : Int),
 (↑b.length :
 Int) -
 (4 : Int),
 false,
 b)).fst -
 (rfNum
 ((4 : Int),
 (↑b.length :
 Int) -
 (4 : Int),
 false,
 b)).fst).toNat
 (List.take
 ((rfNum
 ((4 : Int),
 (↑b.length :
 Int) -
 (4 :
 Int),
 false,
 b)).2.1 +
 (rfNum
 ((4 : Int),
 (↑b.length :
 Int) -
 (4 : Int),
 false,
 b)).fst).toNat
 (rfNum
 ((4 : Int),
 (↑b.length :
 Int) -
 (4 :
 Int),
 false,
 b)).2.2.2.2)))
 l).fst ≠
 List.map
 (fun (n : Int) =>
 UInt8.ofNat n.toNat)
 num →
 [] = (logLoad b).fst ∧
 [] = (logLoad b).snd.fst ∧
 (4 : Int) = (logLoad b).snd.snd) ∧
 (¬((logSave
 (List.map
 (fun (n : Int) =>
 UInt8.ofNat n.toNat)
 (List.drop
 ((rfNum
 ((4 : Int),
 (↑b.length :
 Int) -
 (4 :
 Int),
 false,
 b)).2.1 +
 (rfNum
 ((4 : Int),
 (↑b.length :
 Int) -
 (4 : Int),
 false,
 b)).fst -
 (rfNum
 ((4 : Int),
 (↑b.length :
 Int) -
 (4 : Int),
 false,
 b)).fst).toNat
 (List.take
 ((rfNum
 ((4 : Int),
 (↑b.length :
 Int) -
 (4 :
 Int),
 false,
 b)).2.1 +
 (rfNum
 ((4 : Int),
 (↑b.length :
 Int) -
 (4 : Int),
 false,
 b)).fst).toNat
 (rfNum
 ((4 : Int),
 (↑b.length :
 Int) -
 (4 :
 Int),
 false,
 b)).2.2.2.2)))
 l).snd ≠
 (0 : Int) ∨
 List.map
 (fun (n : Int) =>
 UInt8.ofNat n.toNat)
 (logSave
 (List.map
 (fun (n : Int) =>
 UInt8.ofNat n.toNat)
 (List.drop
 ((rfNum
 ((4 :
 Int),
 (↑b.length :
 Int) -
 (4 :
 Int),
 false,
 b)).2.1 +
 (rfNum
 ((4 : Int),
 (↑b.length :
 Int) -
 (4 :
 Int),
 false,
 b)).fst -
 (rfNum
 ((4 : Int),
 (↑b.length :
 Int) -
 (4 : Int),
 false,
 b)).fst).toNat
 (List.take
 ((rfNum
 ((4 :
 Int),
 (↑b.length :
 Int) -
 (4 :
 Int),
 false,
 b)).2.1 +
 (rfNum
 ((4 : Int),
 (↑b.length :
 Int) -
 (4 :
 Int),
 false,
 b)).fst).toNat
 (rfNum
 ((4 :
 Int),
 (↑b.length :
 Int) -
 (4 :
 Int),
 false,
 b)).2.2.2.2)))
 l).fst ≠
 List.map
 (fun (n : Int) =>
 UInt8.ofNat n.toNat)
 num) →
 List.map
 (fun (n : Int) =>
 UInt8.ofNat n.toNat)
 (List.drop
 ((rfNum
 ((4 : Int),
 (↑b.length :
 Int) -
 (4 : Int),
 false, b)).2.1 +
 (rfNum
 ((4 : Int),
 (↑b.length :
 Int) -
 (4 : Int),
 false, b)).fst -
 (rfNum
 ((4 : Int),
 (↑b.length : Int) -
 (4 : Int),
 false,
 b)).fst).toNat
 (List.take
 ((rfNum
 ((4 : Int),
 (↑b.length :
 Int) -
 (4 : Int),
 false, b)).2.1 +
 (rfNum
 ((4 : Int),
 (↑b.length :
 Int) -
 (4 : Int),
 false,
 b)).fst).toNat
 (rfNum
 ((4 : Int),
 (↑b.length :
 Int) -
 (4 : Int),
 false,
 b)).2.2.2.2)) =
 (logLoad b).fst ∧
 l = (logLoad b).snd.fst ∧
 (0 : Int) =
 (logLoad b).snd.snd)))))))) :
 Con Try.prog f_ref_LogLoaded ref_LogLoaded_ct := ⟨ref_LogLoaded_ok.able, fun x hx =>
 con_eq hC (L := [(f_ref_LogLoaded_1, cmFi ref_LogLoaded_1_cm), (f_ref_LogLoaded_2, ref_LogLoaded_2_fi)]) (⟨cm_fok hU_ref_LogLoaded_1, ref_LogLoaded_2_ok, trivial⟩) ref_LogLoaded_ok (ct := ref_LogLoaded_ct) (depth := 6) rfl (by kernel_rfl) x (H (@id (List Int) x) (mpr' hx (by kernel_rfl))) (by kernel_rfl)⟩

theorem law_sameDeeds_vc (hC : Cons Try.prog [])
 (H : ∀ (a : List (Int × Int × Int × List UInt8)) (b : List (Int × Int × Int × List UInt8)), (fitL a ∧ fitL b) →
 ((↑a.length : Int) ≠ (↑b.length : Int) → false = bo (a = b)) ∧
 (¬(↑a.length : Int) ≠ (↑b.length : Int) →
 ∃ (I : Int → Prop),
 ∃ (m : Int → Nat),
 I 0 ∧
 ∀ (i : Int),
 I i →
 (i < (↑a.length : Int) →
 0 ≤ i ∧
 i < (↑a.length : Int) ∧
 0 ≤ i ∧
 i < (↑b.length : Int) ∧
 (¬((gt a i).fst = (gt b i).fst ∧
 (gt a i).snd.fst = (gt b i).snd.fst ∧
 (gt a i).snd.snd.fst = (gt b i).snd.snd.fst ∧
 (gt a i).snd.snd.snd = (gt b i).snd.snd.snd) →
 false = bo (a = b)) ∧
 (¬¬((gt a i).fst = (gt b i).fst ∧
 (gt a i).snd.fst = (gt b i).snd.fst ∧
 (gt a i).snd.snd.fst = (gt b i).snd.snd.fst ∧
 (gt a i).snd.snd.snd = (gt b i).snd.snd.snd) →
 inI64 (i + 1) ∧ I (i + 1) ∧ m (i + 1) < m i)) ∧
 (¬i < (↑a.length : Int) → true = bo (a = b)))) :
 Con Try.prog f_law_sameDeeds law_sameDeeds_ct := ⟨law_sameDeeds_ok.able, fun x hx =>
 con_eq hC (L := []) (trivial) law_sameDeeds_ok (ct := law_sameDeeds_ct) (depth := 4) rfl (by kernel_rfl) x (H (@id ((List (Int × Int × Int × List UInt8)) × (List (Int × Int × Int × List UInt8))) x).1 (@id ((List (Int × Int × Int × List UInt8)) × (List (Int × Int × Int × List UInt8))) x).2 (mpr' hx (by kernel_rfl))) (by kernel_rfl)⟩

theorem law_LogLoads_vc (hC : Cons Try.prog [(f_log_Load, log_Load_ct), (f_ref_LogLoaded, ref_LogLoaded_ct), (f_law_sameDeeds, law_sameDeeds_ct)])
 (H : ∀ (b : List Int), (b.length ≤ 140737488351232 ∧ ∀ (x : Int), List.Mem x b → IntKind.u8.min ≤ x ∧ x ≤ IntKind.u8.max) →
 (bytesOk b ∧ fitL b) ∧
 (bytesOk b ∧ fitL b) ∧
 ((logLoad b).fst = (logLoad b).fst → fitL (logLoad b).snd.fst ∧ fitL (logLoad b).snd.fst) ∧
 bo
 (((logLoad b).fst = (logLoad b).fst ∧ bo ((logLoad b).snd.fst = (logLoad b).snd.fst) = true) ∧
 (logLoad b).snd.snd = (logLoad b).snd.snd) =
 true) :
 Con Try.prog f_law_LogLoads law_LogLoads_ct := ⟨law_LogLoads_ok.able, fun x hx =>
 con_eq hC (L := []) (trivial) law_LogLoads_ok (ct := law_LogLoads_ct) (depth := 4) rfl (by kernel_rfl) x (H (@id (List Int) x) (mpr' hx (by kernel_rfl))) (by kernel_rfl)⟩

end Go.Proofs.Ytigcaalfadoiaaa
