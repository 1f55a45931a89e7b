/- The contracts of the functions that the law reaches, and that of the law. Conditions: none. -/
import Derived.Test.YtcgggoaefceokaaWPosFinds
set_option linter.unusedVariables false
set_option linter.unusedSimpArgs false
set_option maxRecDepth 100000
namespace Go.Proofs.Ytcgggoaefceokaa
open Go.Vc Go.Fu

theorem pos_Find_hC : Cons Try.prog [] := trivial
theorem pos_Find_con : Con Try.prog f_pos_Find pos_Find_ct := pos_Find_vc pos_Find_hC fun s line col ⟨hs, hl0, hc0⟩ => by
  simp only [inI_iff, true_and, and_true, ne_eq, Int.reduceEq, not_false_eq_true, Int.toNat_zero] at *
  have e10 : ((10 : Int).toNat).toUInt8 = (10 : UInt8) := rfl
  simp only [e10]
  refine ⟨fun q => by rw [posFind_out (by omega)]; exact ⟨rfl, rfl⟩, fun q => ?_⟩
  refine ⟨fun l at_ => 0 ≤ l ∧ l ≤ line ∧ 0 ≤ at_ ∧ at_ ≤ s.length ∧ (posOf (s.take at_.toNat)).2.1 = line - l ∧ (posOf (s.take at_.toNat)).2.2 = 0, fun l _ => l.toNat, by simp [posOf]; omega, ?_⟩
  rintro l at_ ⟨h0, h1, h2, h3, h4, h5⟩
  dsimp only
  have e : (List.drop at_.toNat (List.take ((s.length : Int)).toNat s)) = s.drop at_.toNat := by rw [List.take_of_length_le (by omega)]
  simp only [e]
  have ib := indexByte_spec (s.drop at_.toNat) 10
  have hl : ((s.drop at_.toNat).length : Int) = s.length - at_ := by simp; omega
  rw [hl] at ib
  have gd : ∀ j : Int, 0 ≤ j → gt (s.drop at_.toNat) j = gt s (at_ + j) := fun j hj => by rw [gt_drop hj]; congr 1; omega
  generalize Lib.indexByte (s.drop at_.toNat) 10 = i at *
  have tot : posOf s = posOf (s.take ((s.length : Int)).toNat) := by rw [List.take_of_length_le (by omega)]
  have stretch : ∀ k : Int, 0 ≤ k → at_ + k ≤ s.length → (∀ j, 0 ≤ j → j < k → gt s (at_ + j) ≠ 10) → (posOf (s.take (at_ + k).toNat)).2.1 = line - l ∧ (posOf (s.take (at_ + k).toNat)).2.2 = k := fun k k0 k1 k2 => by
    have := posOf_from (s := s) h2 k.toNat (by omega) fun j a b => by have := k2 (j - at_) (by omega) (by omega); rwa [show at_ + (j - at_) = j by omega] at this
    rw [show at_ + (k.toNat : Int) = at_ + k by omega] at this
    rw [this]
    exact ⟨h4, by simp only; omega⟩
  refine ⟨fun t => ⟨h2, h3, by omega, fun u => ?_, fun u => ?_⟩, fun t => ⟨h2, h3, by omega, fun _ => by omega, fun u => ?_, fun u => ?_⟩⟩
  · rcases ib with ⟨b1, b2⟩ | ⟨b1, _⟩
    · have := stretch (s.length - at_) (by omega) (by omega) fun j a b => by rw [← gd j a]; exact b2 j a b
      rw [show at_ + (s.length - at_) = (s.length : Int) by omega, ← tot] at this
      rw [posFind_out (by omega)]; exact ⟨rfl, rfl⟩
    · omega
  · rcases ib with ⟨b1, b2⟩ | ⟨b1, b2, b3, b4⟩
    · omega
    · refine ⟨by omega, by omega, by omega, ⟨by omega, by omega, by omega, by omega, ?_⟩, by omega⟩
      have := stretch i b1 (by omega) fun j a b => by rw [← gd j a]; exact b4 j a b
      rw [show at_ + (i + 1) = (at_ + i) + 1 by omega, posOf_succ (by omega) (by omega)]
      rw [gd i b1] at b3
      simp only [posStep, if_pos b3]
      constructor <;> first | trivial | omega
  · -- the line is too short
    have hl0 : l = 0 := by omega
    subst hl0
    have wide : ∃ wd, 0 ≤ wd ∧ at_ + wd ≤ s.length ∧ wd < col ∧ (∀ j, 0 ≤ j → j < wd → gt s (at_ + j) ≠ 10) ∧ (at_ + wd < s.length → gt s (at_ + wd) = 10) := by
      rcases ib with ⟨b1, b2⟩ | ⟨b1, b2, b3, b4⟩
      · rw [iteP_pos (by omega)] at u
        exact ⟨s.length - at_, by omega, by omega, u, fun j a b => by rw [← gd j a]; exact b2 j a b, fun h => by omega⟩
      · rw [iteP_neg (by omega)] at u
        exact ⟨i, b1, by omega, u, fun j a b => by rw [← gd j a]; exact b4 j a b, fun _ => by rw [← gd i b1]; exact b3⟩
    obtain ⟨wd, w0, w1, w2, w3, w4⟩ := wide
    have htop := stretch wd w0 w1 w3
    have hle : line ≤ (posOf s).2.1 := by
      have := posOf_mono (s := s) (i := at_ + wd) (j := s.length) (by omega) w1 (by omega)
      rw [tot]; omega
    rw [posFind_none (by omega) (by omega) hle fun x hx => ?_]
    · exact ⟨rfl, rfl⟩
    obtain ⟨x0, x1, x2, x3⟩ := hx
    rcases (show x < at_ ∨ (at_ ≤ x ∧ x ≤ at_ + wd) ∨ at_ + wd < x by omega) with c | c | c
    · have nl : ∀ k, x ≤ k → k < at_ → gt s k ≠ 10 := fun k k0 k1 e => by
        have m1 := posOf_mono (s := s) x0 k0 (by omega)
        have m2 := posOf_mono (s := s) (i := k + 1) (j := at_) (by omega) (by omega) h3
        rw [posOf_succ (by omega) (by omega)] at m2
        simp only [posStep, if_pos e] at m2
        omega
      have := posOf_from (s := s) x0 (at_ - x).toNat (by omega) fun k k0 k1 => nl k k0 (by omega)
      rw [show x + ((at_ - x).toNat : Int) = at_ by omega] at this
      rw [this] at h5
      simp only at h5
      omega
    · have := stretch (x - at_) (by omega) (by omega) fun j a b => w3 j a (by omega)
      rw [show at_ + (x - at_) = x by omega] at this
      omega
    · have m2 := posOf_mono (s := s) (i := at_ + wd + 1) (j := x) (by omega) (by omega) x1
      rw [posOf_succ (by omega) (by omega)] at m2
      simp only [posStep, if_pos (w4 (by omega))] at m2
      omega
  · have hl0 : l = 0 := by omega
    subst hl0
    have hc : at_ + col ≤ s.length ∧ ∀ j, 0 ≤ j → j < col → gt s (at_ + j) ≠ 10 := by
      rcases ib with ⟨b1, b2⟩ | ⟨b1, b2, b3, b4⟩
      · rw [iteP_pos (by omega)] at u
        exact ⟨by omega, fun j a b => by rw [← gd j a]; exact b2 j a (by omega)⟩
      · rw [iteP_neg (by omega)] at u
        exact ⟨by omega, fun j a b => by rw [← gd j a]; exact b4 j a (by omega)⟩
    have htop := stretch col (by omega) hc.1 hc.2
    have hle : line ≤ (posOf s).2.1 := by
      have := posOf_mono (s := s) (i := at_ + col) (j := s.length) (by omega) hc.1 (by omega)
      rw [tot]; omega
    rw [posFind_some (by omega) (by omega) hle (at_ := at_ + col) ⟨by omega, hc.1, by omega, by omega⟩]
    exact ⟨by omega, rfl, rfl⟩

theorem ref_PosOf_hC : Cons Try.prog [] := trivial
theorem ref_PosOf_con : Con Try.prog f_ref_PosOf ref_PosOf_ct := ref_PosOf_vc ref_PosOf_hC fun s hs => by
  simp only [inI_iff, true_and, and_true, ne_eq, Int.reduceEq, not_false_eq_true, Int.toNat_zero]
  refine ⟨fun i p q r => 0 ≤ i ∧ i ≤ s.length ∧ (p, q, r) = posOf (s.take i.toNat) ∧ p = i ∧ 0 ≤ q ∧ q ≤ i ∧ 0 ≤ r ∧ r ≤ i, fun i _ _ _ => (s.length - i).toNat, by simp [posOf], ?_⟩
  rintro i p q r ⟨h0, h1, h2, h3, h4, h5, h6, h7⟩
  dsimp only
  refine ⟨fun t => ⟨by omega, by omega, h0, t, fun u => ⟨by omega, by omega, ⟨by omega, by omega, ?_, by omega, by omega, by omega, by omega, by omega⟩, by omega⟩, fun u => ⟨by omega, ⟨by omega, by omega, ?_, by omega, by omega, by omega, by omega, by omega⟩, by omega⟩⟩, fun t => ?_⟩
  · rw [posOf_succ h0 t, ← h2]
    simp only [posStep, if_pos (byte10.1 u)]
  · rw [posOf_succ h0 t, ← h2]
    simp only [posStep, if_neg fun e => u (byte10.2 e)]
  · rw [h2, List.take_of_length_le (by omega)]

theorem ref_PosFind_hC : Cons Try.prog [(f_ref_PosOf, ref_PosOf_ct)] := ⟨ref_PosOf_con, trivial⟩
theorem ref_PosFind_con : Con Try.prog f_ref_PosFind ref_PosFind_ct := ref_PosFind_vc ref_PosFind_hC fun s line col ⟨hs, _⟩ => by
  simp only [inI_iff, true_and, and_true, ne_eq, Int.reduceEq, not_false_eq_true, Int.toNat_zero, List.drop_zero]
  refine ⟨fun _ => hs, fun q => by rw [posFind_out (by omega)]; exact ⟨rfl, rfl⟩, fun q => ?_⟩
  refine ⟨fun at_ => 0 ≤ at_ ∧ at_ ≤ s.length + 1 ∧ ∀ x, x < at_ → ¬ atPos s line col x, fun at_ => (s.length + 1 - at_).toNat, ⟨by omega, by omega, fun x hx h => by have := h.1; omega⟩, ?_⟩
  rintro at_ ⟨h0, h1, h2⟩
  dsimp only
  refine ⟨fun t => ⟨by omega, h0, t, by simp only [fitS, List.length_take]; omega, fun u => ?_, fun u => ⟨by omega, ⟨by omega, by omega, fun x hx h => ?_⟩, by omega⟩⟩, fun t => ?_⟩
  · rw [posFind_some (by omega) (by omega) (by omega) (at_ := at_) ⟨h0, t, u.1, u.2⟩]; exact ⟨rfl, rfl⟩
  · by_cases e : x = at_
    · rw [e] at h; exact u ⟨h.2.2.1, h.2.2.2⟩
    · exact h2 x (by omega) h
  · rw [posFind_none (by omega) (by omega) (by omega) fun x hx => h2 x (by have := hx.2.1; omega) hx]; exact ⟨rfl, rfl⟩

theorem law_PosFinds_hC : Cons Try.prog [(f_pos_Find, pos_Find_ct), (f_ref_PosFind, ref_PosFind_ct)] := ⟨pos_Find_con, ref_PosFind_con, trivial⟩
theorem law_PosFinds_con : Con Try.prog f_law_PosFinds law_PosFinds_ct := law_PosFinds_vc law_PosFinds_hC fun s line col h => ⟨⟨h.1, h.2.1, h.2.2⟩, ⟨h.1, h.2.1, h.2.2⟩, by simp⟩

end Go.Proofs.Ytcgggoaefceokaa
