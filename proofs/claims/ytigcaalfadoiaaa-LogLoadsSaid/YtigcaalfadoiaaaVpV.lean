/-
  The log: what was read holds what would be written.
-/
import Derived.Test.YtigcaalfadoiaaaVpU
set_option linter.unusedVariables false
set_option linter.unusedSimpArgs false
namespace Go.Fu
open Go.Vc
noncomputable section
theorem by8_nat (n : Int) : ((by8 n).toNat : Int) = n % 256 := by
  have h : 0 ≤ n % 256 ∧ n % 256 < 256 := ⟨Int.emod_nonneg _ (by omega), Int.emod_lt_of_pos _ (by omega)⟩
  have e : (UInt8.ofNat (n % 256).toNat).toNat = (n % 256).toNat := by
    simp only [UInt8.toNat_ofNat']
    omega
  unfold by8
  rw [e]
  omega
theorem by8_id {b : UInt8} : by8 (b.toNat : Int) = b := by
  have h := byte_lt b
  unfold by8
  rw [Int.emod_eq_of_lt (by omega) h]
  simp
theorem ints_append (a b : Bytes) : ints (a ++ b) = ints a ++ ints b := by simp [ints]
theorem ints_length (a : Bytes) : (ints a).length = a.length := by simp [ints]
theorem unI_ints (b : Bytes) : unI (ints b) = b := unints b
theorem unI_append (a b : List Int) : unI (a ++ b) = unI a ++ unI b := by simp [unI]
theorem unI_length (a : List Int) : (unI a).length = a.length := by simp [unI]
theorem ofNat_toNat {x : Int} (h0 : 0 ≤ x) (h1 : x < 256) : ((UInt8.ofNat x.toNat).toNat : Int) = x := by
  simp only [UInt8.toNat_ofNat']
  omega
theorem by8_byte {x : Int} (h0 : 0 ≤ x) (h1 : x < 256) : by8 x = UInt8.ofNat x.toNat := by
  unfold by8
  rw [Int.emod_eq_of_lt h0 h1]
theorem ints_unI {l : List Int} (h : bytesOk l) : ints (unI l) = l := by
  induction l with
  | nil => rfl
  | cons x l ih =>
    have hx := h x (by simp)
    have := ih fun y hy => h y (by simp [hy])
    simp only [ints, unI, List.map_cons] at this ⊢
    rw [this, ofNat_toNat hx.1 hx.2]
theorem bytesOk_ints (b : Bytes) : bytesOk (ints b) := by
  intro x hx
  simp only [ints, List.mem_map] at hx
  obtain ⟨c, _, rfl⟩ := hx
  exact ⟨by omega, byte_lt c⟩
theorem bytesOk_drop {l : List Int} (h : bytesOk l) (n : Nat) : bytesOk (l.drop n) := fun x hx => h x (List.mem_of_mem_drop hx)
theorem bytesOk_take {l : List Int} (h : bytesOk l) (n : Nat) : bytesOk (l.take n) := fun x hx => h x (List.mem_of_mem_take hx)
theorem bytesOk_gt {l : List Int} (h : bytesOk l) {i : Int} (h0 : 0 ≤ i) (h1 : i < l.length) : 0 ≤ gt l i ∧ gt l i < 256 := h _ (gt_mem h0 h1)
theorem ints_num2 {x y : Int} (hx : 0 ≤ x ∧ x < 256) (hy : 0 ≤ y ∧ y < 256) : ints (num2 (256 * x + y)) = [x, y] := by
  simp only [ints, num2, List.map_cons, List.map_nil, by8_nat]
  have e1 : (256 * x + y) / 256 % 256 = x := by omega
  have e2 : (256 * x + y) % 256 = y := by omega
  rw [e1, e2]
theorem two_cells {l : List Int} (h : ¬ l.length < 2) : l = gt l 0 :: gt l 1 :: l.drop 2 := by
  match l, h with
  | x :: y :: l, _ => rfl
  | [x], h => simp at h
  | [], h => simp at h

theorem rdNum_bad {r : Rd} (h : r.2 = true) : (rdNum r).1.2 = true := by unfold rdNum; rw [if_pos (.inl h)]
theorem rdNum_ok {r : Rd} (h : (rdNum r).1.2 = false) : r.2 = false ∧ ¬ r.1.length < 2 ∧ rdNum r = ((r.1.drop 2, false), 256 * gt r.1 0 + gt r.1 1) := by
  unfold rdNum at h ⊢
  by_cases c : r.2 = true ∨ r.1.length < 2
  · rw [if_pos c] at h; cases h
  · rw [if_neg c]
    have c1 : ¬ r.2 = true := fun w => c (.inl w)
    exact ⟨by simpa using c1, fun w => c (.inr w), rfl⟩
theorem rdNum_enc {r : Rd} (hb : bytesOk r.1) (h : (rdNum r).1.2 = false) : r.2 = false ∧ r.1 = ints (num2 (rdNum r).2) ++ (rdNum r).1.1 ∧ bytesOk (rdNum r).1.1 ∧ 0 ≤ (rdNum r).2 ∧ (rdNum r).2 < 65536 := by
  obtain ⟨h1, h2, e⟩ := rdNum_ok h
  rw [e]
  have g0 := bytesOk_gt hb (i := 0) (by omega) (by omega)
  have g1 := bytesOk_gt hb (i := 1) (by omega) (by omega)
  refine ⟨h1, ?_, bytesOk_drop hb _, by simp only; omega, by simp only; omega⟩
  simp only
  rw [ints_num2 g0 g1]
  exact two_cells h2
theorem rdText1_bad {r : Rd} {n : Int} (h : r.2 = true) : (rdText1 r n).1.2 = true := by unfold rdText1; rw [if_pos (.inl h)]
theorem rdText1_ok {r : Rd} {n : Int} (h : (rdText1 r n).1.2 = false) : r.2 = false ∧ n ≤ r.1.length ∧ rdText1 r n = ((r.1.drop n.toNat, false), unI (r.1.take n.toNat)) := by
  unfold rdText1 at h ⊢
  by_cases c : r.2 = true ∨ (r.1.length : Int) < n
  · rw [if_pos c] at h; cases h
  · rw [if_neg c]
    have c1 : ¬ r.2 = true := fun w => c (.inl w)
    have c2 : ¬ (r.1.length : Int) < n := fun w => c (.inr w)
    exact ⟨by simpa using c1, by omega, rfl⟩
theorem rdText_bad {r : Rd} (h : r.2 = true) : (rdText r).1.2 = true := rdText1_bad (rdNum_bad h)
theorem rdText_enc {r : Rd} (hb : bytesOk r.1) (h : (rdText r).1.2 = false) : r.2 = false ∧ r.1 = ints (num2 (rdText r).2.length ++ (rdText r).2) ++ (rdText r).1.1 ∧ bytesOk (rdText r).1.1 ∧ ((rdText r).2.length : Int) < 65536 := by
  obtain ⟨h1, h2, e⟩ := rdText1_ok h
  obtain ⟨g1, g2, g3, g4, g5⟩ := rdNum_enc hb h1
  have e' : rdText r = (((rdNum r).1.1.drop (rdNum r).2.toNat, false), unI ((rdNum r).1.1.take (rdNum r).2.toNat)) := e
  have el : ((unI ((rdNum r).1.1.take (rdNum r).2.toNat)).length : Int) = (rdNum r).2 := by
    rw [unI_length, List.length_take]; omega
  rw [e']
  simp only
  refine ⟨g1, ?_, bytesOk_drop g3 _, by omega⟩
  rw [el, ints_append, ints_unI (bytesOk_take g3 _), List.append_assoc, List.take_append_drop]
  exact g2
theorem rdDeed1_bad {r : Rd} (h : r.2 = true) : (rdDeed1 r).1.2 = true := rdText_bad (rdNum_bad (rdNum_bad h))
theorem rdDeed1_enc {r : Rd} (hb : bytesOk r.1) (h : (rdDeed1 r).1.2 = false) : r.2 = false ∧ r.1 = ints (num2 (rdDeed1 r).2.2.1 ++ num2 (rdDeed1 r).2.2.2.1 ++ num2 (rdDeed1 r).2.2.2.2.length ++ (rdDeed1 r).2.2.2.2) ++ (rdDeed1 r).1.1 ∧ bytesOk (rdDeed1 r).1.1 := by
  obtain ⟨a1, a2, a3, _⟩ : (rdNum (rdNum r).1).1.2 = false ∧ _ := by
    by_cases c : (rdNum (rdNum r).1).1.2 = true
    · have := rdText_bad c
      have h : (rdText (rdNum (rdNum r).1).1).1.2 = false := h
      rw [this] at h; cases h
    · exact ⟨by simpa using c, trivial⟩
  have hb1 : (rdNum r).1.2 = false := by
    by_cases c : (rdNum r).1.2 = true
    · have := rdNum_bad c; rw [this] at a1; cases a1
    · simpa using c
  obtain ⟨g1, g2, g3, _, _⟩ := rdNum_enc hb hb1
  obtain ⟨_, k2, k3, _, _⟩ := rdNum_enc g3 a1
  obtain ⟨_, m2, m3, _⟩ := rdText_enc k3 (show (rdText (rdNum (rdNum r).1).1).1.2 = false from h)
  refine ⟨g1, ?_, m3⟩
  simp only [rdDeed1]
  rw [List.append_assoc (num2 _ ++ num2 _), ints_append, ints_append, List.append_assoc, List.append_assoc, ← m2, ← k2]
  exact g2
theorem rdDeed_bad {r : Rd} (h : r.2 = true) : (rdDeed r).1.2 = true := by unfold rdDeed; rw [if_pos (.inl h)]
theorem cons_gt {l : List Int} (h : ¬ l.length < 1) : l = gt l 0 :: l.drop 1 := by
  match l, h with
  | x :: l, _ => rfl
  | [], h => simp at h
theorem rdDeed_enc {r : Rd} (hb : bytesOk r.1) (h : (rdDeed r).1.2 = false) : r.2 = false ∧ r.1 = ints (deedBytes (rdDeed r).2) ++ (rdDeed r).1.1 ∧ bytesOk (rdDeed r).1.1 := by
  unfold rdDeed at h ⊢
  by_cases c : r.2 = true ∨ r.1.length < 1
  · rw [if_pos c] at h; cases h
  rw [if_neg c] at h ⊢
  have c1 : r.2 = false := by
    have : ¬ r.2 = true := fun w => c (.inl w)
    simpa using this
  have c2 : ¬ r.1.length < 1 := fun w => c (.inr w)
  have g0 := bytesOk_gt hb (i := 0) (by omega) (by omega)
  have e0 : ((by8 (gt r.1 0)).toNat : Int) = gt r.1 0 := by rw [by8_nat]; omega
  by_cases k : gt r.1 0 = 1
  · rw [if_pos k] at h ⊢
    obtain ⟨_, h2, h3⟩ := rdDeed1_enc (r := (r.1.drop 1, false)) (bytesOk_drop hb _) h
    refine ⟨c1, ?_, h3⟩
    have hk : (rdDeed1 (r.1.drop 1, false)).2.1 = 1 := rfl
    rw [deedBytes, hk, if_pos rfl]
    have e1 : ints (by8 1 :: (num2 (rdDeed1 (r.1.drop 1, false)).2.2.1 ++ num2 (rdDeed1 (r.1.drop 1, false)).2.2.2.1 ++ num2 (rdDeed1 (r.1.drop 1, false)).2.2.2.2.length ++ (rdDeed1 (r.1.drop 1, false)).2.2.2.2)) = gt r.1 0 :: ints (num2 (rdDeed1 (r.1.drop 1, false)).2.2.1 ++ num2 (rdDeed1 (r.1.drop 1, false)).2.2.2.1 ++ num2 (rdDeed1 (r.1.drop 1, false)).2.2.2.2.length ++ (rdDeed1 (r.1.drop 1, false)).2.2.2.2) := by
      rw [← e0, k]; rfl
    rw [e1, List.cons_append, ← h2]
    exact cons_gt c2
  · rw [if_neg k]
    refine ⟨c1, ?_, bytesOk_drop hb _⟩
    rw [deedBytes, if_neg k]
    simp only [ints, List.map_cons, List.map_nil, e0]
    exact cons_gt c2
theorem rdDeeds_bad {r : Rd} {l : List Deed} (h : r.2 = true) : ∀ k, (rdDeeds k r l).1.2 = true
  | 0 => h
  | k + 1 => by unfold rdDeeds; rw [if_pos h]; exact h
theorem rdDeeds_enc : ∀ (k : Nat) {r : Rd} {l : List Deed}, bytesOk r.1 → (rdDeeds k r l).1.2 = false → r.2 = false ∧ ∃ m : List Deed, (rdDeeds k r l).2 = l ++ m ∧ m.length = k ∧ r.1 = ints (deedsBytes m) ++ (rdDeeds k r l).1.1
  | 0, r, l, hb, h => ⟨h, [], by simp [rdDeeds], rfl, by simp [rdDeeds, deedsBytes, ints]⟩
  | k + 1, r, l, hb, h => by
    by_cases c : r.2 = true
    · rw [rdDeeds_bad c] at h; cases h
    have e : rdDeeds (k + 1) r l = rdDeeds k (rdDeed r).1 (l ++ [(rdDeed r).2]) := by
      rw [rdDeeds, if_neg c]
    rw [e] at h ⊢
    by_cases c2 : (rdDeed r).1.2 = true
    · rw [rdDeeds_bad c2] at h; cases h
    obtain ⟨_, g2, g3⟩ := rdDeed_enc hb (by simpa using c2)
    obtain ⟨_, m, q1, q2, q3⟩ := rdDeeds_enc k g3 h
    refine ⟨by simpa using c, (rdDeed r).2 :: m, by rw [q1]; simp, by simp [q2], ?_⟩
    rw [deedsBytes, List.flatMap_cons, ints_append, List.append_assoc, ← deedsBytes, ← q3]
    exact g2
/-- What was read without running out is what stands there. -/
theorem parse_enc {b : List Int} (hb : bytesOk b) (h4 : 4 ≤ b.length) (h : (logParse b).1.1.2 = false) :
    b = b.take 4 ++ ints (num2 (logParse b).2.length ++ (logParse b).2 ++ num2 (logParse b).1.2.length ++ deedsBytes (logParse b).1.2) ++ (logParse b).1.1.1 := by
  have h0 := bytesOk_drop hb 4
  generalize hr : ((b.drop 4, false) : Rd) = r at *
  have e : logParse b = (rdDeeds (rdNum (rdText r).1).2.toNat (rdNum (rdText r).1).1 [], (rdText r).2) := by rw [← hr]; rfl
  rw [e] at h ⊢
  simp only at h ⊢
  have hr1 : r.1 = b.drop 4 := by rw [← hr]
  have h0 : bytesOk r.1 := by rw [hr1]; exact bytesOk_drop hb 4
  by_cases c : (rdNum (rdText r).1).1.2 = true
  · rw [rdDeeds_bad c] at h; cases h
  have c : (rdNum (rdText r).1).1.2 = false := by simpa using c
  by_cases d : (rdText r).1.2 = true
  · rw [rdNum_bad d] at c; cases c
  have d : (rdText r).1.2 = false := by simpa using d
  obtain ⟨_, t2, t3, _⟩ := rdText_enc h0 d
  obtain ⟨_, n2, n3, n4, _⟩ := rdNum_enc t3 c
  obtain ⟨_, m, q1, q2, q3⟩ := rdDeeds_enc _ n3 h
  rw [q1, List.nil_append, q2, Int.toNat_of_nonneg n4]
  have e2 : b = b.take 4 ++ r.1 := by rw [hr1, List.take_append_drop]
  conv => lhs; rw [e2, t2, n2, q3]
  simp only [ints_append, List.append_assoc]
/-- Four bytes as a number, and back. -/
theorem num4_sum {t : List Int} (hb : bytesOk t) (hl : t.length = 4) : ints (num4 (sumOf t)) = t := by
  match t, hl with
  | [x, y, z, w], _ =>
    have hx := hb x (by simp)
    have hy := hb y (by simp)
    have hz := hb z (by simp)
    have hw := hb w (by simp)
    simp only [ints, num4, List.map_cons, List.map_nil, by8_nat, sumOf, List.foldl_cons, List.foldl_nil]
    have e1 : (256 * (256 * (256 * (256 * 0 + x) + y) + z) + w) / 16777216 % 256 = x := by omega
    have e2 : (256 * (256 * (256 * (256 * 0 + x) + y) + z) + w) / 65536 % 256 = y := by omega
    have e3 : (256 * (256 * (256 * (256 * 0 + x) + y) + z) + w) / 256 % 256 = z := by omega
    have e4 : (256 * (256 * (256 * (256 * 0 + x) + y) + z) + w) % 256 = w := by omega
    rw [e1, e2, e3, e4]
/-- **What is read without running out is saved again as it stands if nothing is left, the head is there, and the sum is right.** -/
theorem saved_iff {b : List Int} (hb : bytesOk b) (hl : 12 ≤ b.length) (hs : (polyOf (unI (logBodyOf b))).1 = sumOf (logTail b)) (h : (logParse (logBodyOf b)).1.1.2 = false) :
    saved (logParse (logBodyOf b)).2 (logParse (logBodyOf b)).1.2 = unI b ↔ (logParse (logBodyOf b)).1.1.1 = [] ∧ unI ((logBodyOf b).take 4) = logHead := by
  have hbody : bytesOk (logBodyOf b) := bytesOk_take hb _
  have htail : bytesOk (logTail b) := bytesOk_drop hb _
  have hlen : (logBodyOf b).length = b.length - 4 := by simp only [logBodyOf, List.length_take]; omega
  have eb : b = logBodyOf b ++ logTail b := (List.take_append_drop _ _).symm
  have hp := parse_enc hbody (by omega) h
  generalize logParse (logBodyOf b) = p at *
  obtain ⟨⟨⟨left, bad⟩, l⟩, s⟩ := p
  simp only at hp h ⊢
  have tl : (logTail b).length = 4 := by simp only [logTail, List.length_drop]; omega
  have hlb : (logBodyOf b).length = 4 + (num2 s.length ++ s ++ num2 l.length ++ deedsBytes l).length + left.length := by
    conv => lhs; rw [hp]
    simp only [List.length_append, ints_length, List.length_take]
    omega
  have hlB : (logBody s l).length = 4 + (num2 s.length ++ s ++ num2 l.length ++ deedsBytes l).length := by
    simp only [logBody, List.length_append, logHead, List.length_cons, List.length_nil]
    omega
  constructor
  · intro e
    have e1 : (saved s l).length = (unI b).length := by rw [e]
    have e2 : (saved s l).length = (logBody s l).length + 4 := by simp [saved, num4]
    rw [unI_length] at e1
    have hleft : left = [] := List.eq_nil_of_length_eq_zero (by omega)
    refine ⟨hleft, ?_⟩
    have e3 : (saved s l).take 4 = (unI b).take 4 := by rw [e]
    have e4 : (saved s l).take 4 = logHead := by simp [saved, logBody, logHead]
    rw [e4] at e3
    rw [e3]
    simp only [unI, logBodyOf, List.map_take]
    rw [List.take_take, Nat.min_eq_left (by omega)]
  · rintro ⟨rfl, hh⟩
    have e1 : logBodyOf b = ints (logBody s l) := by
      rw [hp]
      have : (logBodyOf b).take 4 = ints logHead := by rw [← hh, ints_unI (bytesOk_take hbody _)]
      rw [this]
      simp only [logBody, ints_append, List.append_assoc, List.append_nil]
    have e2 : unI (logBodyOf b) = logBody s l := by rw [e1, unI_ints]
    rw [saved, ← e2, hs]
    conv => rhs; rw [eb, unI_append]
    congr 1
    have := num4_sum htail tl
    rw [← this, unI_ints]
    rw [this]
end
end Go.Fu
