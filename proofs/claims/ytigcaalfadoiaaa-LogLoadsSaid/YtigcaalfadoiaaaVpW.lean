/-
  The log: reading back, function by function.
-/
import Derived.Test.YtigcaalfadoiaaaVpV
set_option linter.unusedVariables false
set_option linter.unusedSimpArgs false
namespace Go.Fu
open Go.Vc
noncomputable section
theorem w2 (n : Int) : [IntKind.u8.wrap (n.fdiv (2 ^ min (Int.toNat 8) IntKind.i64.bits)), IntKind.u8.wrap n] = ints (num2 n) := by
  have e : (2 ^ min (Int.toNat 8) IntKind.i64.bits : Int) = 256 := by rfl
  rw [e, wrap8, wrap8, Int.fdiv_eq_ediv_of_nonneg n (by omega)]
  rfl
theorem w4 (n : Int) : [IntKind.u8.wrap (n.fdiv (2 ^ min (Int.toNat 24) IntKind.i64.bits)), IntKind.u8.wrap (n.fdiv (2 ^ min (Int.toNat 16) IntKind.i64.bits)), IntKind.u8.wrap (n.fdiv (2 ^ min (Int.toNat 8) IntKind.i64.bits)), IntKind.u8.wrap n] = ints (num4 n) := by
  have e : (2 ^ min (Int.toNat 8) IntKind.i64.bits : Int) = 256 := by rfl
  have e1 : (2 ^ min (Int.toNat 16) IntKind.i64.bits : Int) = 65536 := by rfl
  have e2 : (2 ^ min (Int.toNat 24) IntKind.i64.bits : Int) = 16777216 := by rfl
  rw [e, e1, e2, wrap8, wrap8, wrap8, wrap8, Int.fdiv_eq_ediv_of_nonneg n (by omega), Int.fdiv_eq_ediv_of_nonneg n (by omega), Int.fdiv_eq_ediv_of_nonneg n (by omega)]
  rfl
theorem w1 (n : Int) : [IntKind.u8.wrap n] = ints [by8 n] := by rw [wrap8]; rfl
theorem w0 (s : Bytes) : List.map (fun c : UInt8 => (c.toNat : Int)) s = ints s := rfl
theorem wh : ([70, 85, 83, 49] : List Int) = ints logHead := by rfl
theorem wu (l : List Int) : List.map (fun n : Int => UInt8.ofNat n.toNat) l = unI l := rfl
theorem num4_len (n : Int) : (num4 n).length = 4 := rfl
def preBytes (s : Bytes) (l : List Deed) : Bytes := logHead ++ num2 s.length ++ s ++ num2 l.length
theorem pre_len (s : Bytes) (l : List Deed) : (preBytes s l).length = 8 + s.length := by simp [preBytes, num2_len, logHead]; omega
theorem deeds_take_len {l : List Deed} (h : ∀ d ∈ l, d.2.2.2.length ≤ 600) (n : Nat) : (deedsBytes (l.take n)).length ≤ 607 * l.length := by
  have := deedsBytes_len (l := l.take n) fun d hd => h d (List.mem_of_mem_take hd)
  have h2 : (l.take n).length ≤ l.length := by simp [List.length_take]; omega
  have h3 : 607 * (l.take n).length ≤ 607 * l.length := Nat.mul_le_mul_left _ h2
  omega
theorem saved_len {s : Bytes} {l : List Deed} (h : logFault s l = 0) : (saved s l).length ≤ 60000 := by
  obtain ⟨h1, h2, h3⟩ := logFault_ok h
  have h4 := deedsBytes_len (l := l) fun d hd => (h3 d hd).1
  simp only [saved, logBody, List.length_append, num2_len, num4_len]
  have : logHead.length = 4 := rfl
  omega
theorem logSave_len (s : Bytes) (l : List Deed) : (logSave s l).1.length ≤ 60000 := by
  unfold logSave
  split
  · simp
  · rename_i h
    have h : logFault s l = 0 := by simpa using h
    simp only [ints_length]
    exact saved_len h
abbrev RfS := Int × Int × Bool × List Int
def rfNum (x : RfS) : Int × RfS := if x.2.1 < x.1 + 2 then (0, (x.1, x.2.1, true, x.2.2.2)) else (256 * gt x.2.2.2 x.1 + gt x.2.2.2 (x.1 + 1), (x.1 + 2, x.2.1, x.2.2.1, x.2.2.2))
def rfPre (x : RfS) : Prop := 0 ≤ x.1 ∧ x.1 ≤ x.2.1 ∧ x.2.1 ≤ x.2.2.2.length ∧ x.2.2.2.length ≤ 140737488355328 ∧ bytesOk x.2.2.2
def rfText1 (x : RfS) (n : Int) : Bytes × RfS := if x.2.2.1 = true ∨ x.2.1 < x.1 + n then ([], (x.1, x.2.1, true, x.2.2.2)) else (unI ((x.2.2.2.drop x.1.toNat).take n.toNat), (x.1 + n, x.2.1, x.2.2.1, x.2.2.2))
def rfText (x : RfS) : Bytes × RfS := rfText1 (rfNum x).2 (rfNum x).1
def ref_LogLoaded_1_cm : Cm := ⟨tys4 tI tI .bool (.sl tU), [true, true, true, true], [.val tI], rfPre, rfNum⟩
theorem orB {a x : Int} (ha : 0 ≤ a) (ha2 : a < 36028797018963968) (hx : 0 ≤ x) (hx2 : x < 256) :
    IntKind.i64.wrap (((BitVec.ofInt IntKind.i64.bits (a * 2 ^ min (Int.toNat 8) IntKind.i64.bits) ||| BitVec.ofInt IntKind.i64.bits x).toNat : Nat) : Int) = 256 * a + x := by
  obtain ⟨n, rfl⟩ := Int.eq_ofNat_of_zero_le ha
  obtain ⟨m, rfl⟩ := Int.eq_ofNat_of_zero_le hx
  have e : (2 ^ min (Int.toNat 8) IntKind.i64.bits : Int) = 256 := by rfl
  have e2 : ((n : Int) * 256) = ((n * 256 : Nat) : Int) := by omega
  rw [e, e2, BitVec.ofInt_natCast, BitVec.ofInt_natCast, BitVec.toNat_or, BitVec.toNat_ofNat, BitVec.toNat_ofNat]
  have eb : IntKind.i64.bits = 64 := rfl
  rw [eb, Nat.mod_eq_of_lt (by omega), Nat.mod_eq_of_lt (by omega)]
  have h : n <<< 8 + m = n <<< 8 ||| m := Nat.shiftLeft_add_eq_or_of_lt (by omega) n
  rw [Nat.shiftLeft_eq] at h
  have e3 : n * 2 ^ 8 = n * 256 := rfl
  rw [e3] at h
  rw [← h, IntKind.wrap_i64]
  omega
theorem inI_mul {a : Int} (ha : 0 ≤ a) (ha2 : a < 36028797018963968) : inI64 (a * 2 ^ min (Int.toNat 8) IntKind.i64.bits) := by
  have e : (2 ^ min (Int.toNat 8) IntKind.i64.bits : Int) = 256 := by rfl
  rw [e]; unfold inI64; omega
theorem inI_byte {a : Int} (ha : 0 ≤ a ∧ a < 256) : inI64 a := by unfold inI64; omega
theorem rdNum_if {r : Rd} (h : r.2 = true ∨ r.1.length < 2) : rdNum r = ((r.1, true), 0) := if_pos h
theorem rdNum_else {r : Rd} (h : ¬ (r.2 = true ∨ r.1.length < 2)) : rdNum r = ((r.1.drop 2, false), 256 * gt r.1 0 + gt r.1 1) := if_neg h
theorem rdText1_if {r : Rd} {n : Int} (h : r.2 = true ∨ (r.1.length : Int) < n) : rdText1 r n = ((r.1, true), List.replicate (min n 2).toNat 0) := if_pos h
theorem rdText1_else {r : Rd} {n : Int} (h : ¬ (r.2 = true ∨ (r.1.length : Int) < n)) : rdText1 r n = ((r.1.drop n.toNat, false), unI (r.1.take n.toNat)) := if_neg h
theorem rdNum_rdOk {r : Rd} (h : rdOk r) : rdOk (rdNum r).1 ∧ 0 ≤ (rdNum r).2 ∧ (rdNum r).2 < 65536 := by
  by_cases c : r.2 = true ∨ r.1.length < 2
  · rw [rdNum_if c]; exact ⟨h, Int.le_refl 0, show (0 : Int) < 65536 by omega⟩
  · rw [rdNum_else c]
    have c2 : ¬ r.1.length < 2 := fun w => c (.inr w)
    have g0 := bytesOk_gt h.1 (i := 0) (by omega) (by omega)
    have g1 := bytesOk_gt h.1 (i := 1) (by omega) (by omega)
    refine ⟨⟨bytesOk_drop h.1 _, ?_⟩, ?_, ?_⟩
    · have := h.2; simp only [List.length_drop]; omega
    · show 0 ≤ 256 * gt r.1 0 + gt r.1 1; omega
    · show 256 * gt r.1 0 + gt r.1 1 < 65536; omega
theorem rdText_rdOk {r : Rd} (h : rdOk r) : rdOk (rdText r).1 := by
  obtain ⟨h1, h2, h3⟩ := rdNum_rdOk h
  unfold rdText
  by_cases c : (rdNum r).1.2 = true ∨ ((rdNum r).1.1.length : Int) < (rdNum r).2
  · rw [rdText1_if c]; exact h1
  · rw [rdText1_else c]
    refine ⟨bytesOk_drop h1.1 _, ?_⟩
    have := h1.2; simp only [List.length_drop]; omega
theorem rdDeed_if {r : Rd} (h : r.2 = true ∨ r.1.length < 1) : rdDeed r = ((r.1, true), (0, 0, 0, [])) := if_pos h
theorem rdDeed_else {r : Rd} (h : ¬ (r.2 = true ∨ r.1.length < 1)) (k : gt r.1 0 = 1) : rdDeed r = rdDeed1 (r.1.drop 1, false) := by unfold rdDeed; rw [if_neg h, if_pos k]
theorem rdDeed_else2 {r : Rd} (h : ¬ (r.2 = true ∨ r.1.length < 1)) (k : ¬ gt r.1 0 = 1) : rdDeed r = ((r.1.drop 1, false), (gt r.1 0, 0, 0, [])) := by unfold rdDeed; rw [if_neg h, if_neg k]
theorem rdDeed_rdOk {r : Rd} (h : rdOk r) : rdOk (rdDeed r).1 := by
  by_cases c : r.2 = true ∨ r.1.length < 1
  · rw [rdDeed_if c]; exact h
  have hd : rdOk ((r.1.drop 1, false) : Rd) := ⟨bytesOk_drop h.1 _, by have := h.2; simp only [List.length_drop]; omega⟩
  by_cases k : gt r.1 0 = 1
  · rw [rdDeed_else c k]
    exact rdText_rdOk (rdNum_rdOk (rdNum_rdOk hd).1).1
  · rw [rdDeed_else2 c k]; exact hd
theorem sumOf_app (l : List Int) (x : Int) : sumOf (l ++ [x]) = 256 * sumOf l + x := by simp [sumOf]
theorem sumOf_take {t : List Int} {x : Int} (h0 : 0 ≤ x) (h1 : x < t.length) : sumOf (t.take (x + 1).toNat) = 256 * sumOf (t.take x.toNat) + gt t x := by rw [take_gt h0 h1, sumOf_app]
theorem sumOf_bd4 {t : List Int} (hb : bytesOk t) (hl : t.length ≤ 4) : 0 ≤ sumOf t ∧ sumOf t < 4294967296 := by
  match t, hl with
  | [], _ => exact ⟨by decide, by decide⟩
  | [x], _ =>
    have hx := hb x (by simp)
    simp only [sumOf, List.foldl_cons, List.foldl_nil]; omega
  | [x, y], _ =>
    have hx := hb x (by simp)
    have hy := hb y (by simp)
    simp only [sumOf, List.foldl_cons, List.foldl_nil]; omega
  | [x, y, z], _ =>
    have hx := hb x (by simp)
    have hy := hb y (by simp)
    have hz := hb z (by simp)
    simp only [sumOf, List.foldl_cons, List.foldl_nil]; omega
  | [x, y, z, w], _ =>
    have hx := hb x (by simp)
    have hy := hb y (by simp)
    have hz := hb z (by simp)
    have hw := hb w (by simp)
    simp only [sumOf, List.foldl_cons, List.foldl_nil]; omega
theorem rfNum_if {x : RfS} (h : x.2.1 < x.1 + 2) : rfNum x = (0, (x.1, x.2.1, true, x.2.2.2)) := if_pos h
theorem rfNum_else {x : RfS} (h : ¬ x.2.1 < x.1 + 2) : rfNum x = (256 * gt x.2.2.2 x.1 + gt x.2.2.2 (x.1 + 1), (x.1 + 2, x.2.1, x.2.2.1, x.2.2.2)) := if_neg h
theorem logLoad_short {b : List Int} (h : b.length < 12) : logLoad b = ([], [], 5) := if_pos h
theorem logLoad_sum {b : List Int} (h : ¬ b.length < 12) (h2 : (polyOf (unI (logBodyOf b))).1 ≠ sumOf (logTail b)) : logLoad b = ([], [], 6) := by unfold logLoad; rw [if_neg h, if_pos h2]
theorem logLoad_read {b : List Int} (h : ¬ b.length < 12) (h2 : (polyOf (unI (logBodyOf b))).1 = sumOf (logTail b)) : logLoad b = logRead (logBodyOf b) := by unfold logLoad; rw [if_neg h, if_neg (not_not_intro h2)]
theorem rdDeeds_stop {r : Rd} {l : List Deed} (h : r.2 = true) : ∀ k, rdDeeds k r l = (r, l)
  | 0 => rfl
  | k + 1 => by rw [rdDeeds, if_pos h]
theorem rdDeeds_zero {r : Rd} {l : List Deed} : rdDeeds 0 r l = (r, l) := rfl
theorem rdDeeds_pos {n : Int} {r : Rd} {l : List Deed} (h : 0 < n) (hb : ¬ r.2 = true) : rdDeeds n.toNat r l = rdDeeds (n - 1).toNat (rdDeed r).1 (l ++ [(rdDeed r).2]) := by
  have e : n.toNat = (n - 1).toNat + 1 := by omega
  rw [e, rdDeeds, if_neg hb]
theorem rdDeeds_exit {n : Int} {r : Rd} {l : List Deed} (h : ¬ (0 < n ∧ ¬ r.2 = true)) : rdDeeds n.toNat r l = (r, l) := by
  by_cases hb : r.2 = true
  · exact rdDeeds_stop hb _
  · have e : n.toNat = 0 := by
      have : ¬ 0 < n := fun k => h ⟨k, hb⟩
      omega
    rw [e]; rfl
theorem logRead_no {b : List Int} (h : (logParse b).1.1.2 = true ∨ (logParse b).1.1.1 ≠ [] ∨ unI (b.take 4) ≠ logHead ∨ logFault (logParse b).2 (logParse b).1.2 ≠ 0) : logRead b = ([], [], 4) := by
  unfold logRead; exact iteP_pos h
theorem logRead_yes {b : List Int} (h : ¬ ((logParse b).1.1.2 = true ∨ (logParse b).1.1.1 ≠ [] ∨ unI (b.take 4) ≠ logHead ∨ logFault (logParse b).2 (logParse b).1.2 ≠ 0)) : logRead b = ((logParse b).2, (logParse b).1.2, 0) := by
  unfold logRead; exact iteP_neg h
end
end Go.Fu
