/- The contracts of the functions that the law reaches, and that of the law. Conditions: none. -/
import Derived.Test.YtcgggoaefceokaaWSpansWidens
set_option linter.unusedVariables false
set_option linter.unusedSimpArgs false
set_option maxRecDepth 100000
namespace Go.Proofs.Ytcgggoaefceokaa
open Go.Vc Go.Fu

theorem spans_Widened_hC : Cons Try.prog [] := trivial
theorem spans_Widened_con : Con Try.prog f_spans_Widened spans_Widened_ct := spans_Widened_vc spans_Widened_hC fun s x ⟨w1, w2, w3, w4⟩ => by
  have e1 : List.take ((s.length : Int)).toNat s = s := List.take_of_length_le (by omega)
  have e10 : ((10 : Int).toNat).toUInt8 = (10 : UInt8) := rfl
  simp only [inI_iff, true_and, and_true, ne_eq, Int.reduceEq, not_false_eq_true, Int.toNat_zero, e1, e10, List.drop_zero, List.length_take]
  obtain ⟨lo, hi⟩ := x
  dsimp only at *
  have ib := indexByte_spec (s.drop hi.toNat) 10
  have hl : ((s.drop hi.toNat).length : Int) = s.length - hi := by simp; omega
  rw [hl] at ib
  have gd : ∀ j : Int, 0 ≤ j → gt (s.drop hi.toNat) j = gt s (hi + j) := fun j hj => by rw [gt_drop hj]; congr 1; omega
  generalize Lib.indexByte (s.drop hi.toNat) 10 = ix at *
  have up : 0 ≤ ix → lineHi s hi = hi + (ix + 1) := fun h => by
    rcases ib with ⟨b1, _⟩ | ⟨b1, b2, b3, b4⟩
    · omega
    · refine lineHi_eq ⟨by omega, by omega, fun j a b => ?_, fun _ => ⟨by omega, ?_⟩⟩
      · have := b4 (j - hi) (by omega) (by omega)
        rwa [gd _ (by omega), show hi + (j - hi) = j by omega] at this
      · rw [gd _ b1] at b3
        rw [show hi + (ix + 1) - 1 = hi + ix by omega]; exact b3
  have dn : ¬ 0 ≤ ix → lineHi s hi = s.length := fun h => by
    rcases ib with ⟨b1, b2⟩ | ⟨b1, _⟩
    · have nl : ∀ j, hi ≤ j → j < s.length → gt s j ≠ 10 := fun j a b => by
        have := b2 (j - hi) (by omega) (by omega)
        rwa [gd _ (by omega), show hi + (j - hi) = j by omega] at this
      refine lineHi_eq ⟨by omega, by omega, fun j a b => nl j a (by omega), fun h => ?_⟩
      rcases h with h | ⟨h, h'⟩
      · omega
      · exact absurd h' (nl _ (by omega) (by omega))
    · omega
  refine ⟨by omega, w2, by omega, by omega, fun i => -1 ≤ i ∧ i < lo ∧ ∀ j, i < j → j < lo → gt s j ≠ 10, fun i => (i + 1).toNat, ⟨by omega, by omega, fun j a b => by omega⟩, ?_⟩
  rintro i ⟨h0, h1, h2⟩
  dsimp only
  refine ⟨fun t => ⟨t, by omega, fun u => ?_, fun u => ⟨by omega, ⟨by omega, by omega, fun j a b => ?_⟩, by omega⟩⟩, fun t => ?_⟩
  · rw [gt_take t (by omega)] at u
    have u := byte10.1 u
    have el : lineLo s lo = i + 1 := lineLo_eq ⟨by omega, by omega, fun j a b => h2 j (by omega) b, fun _ => by rw [show i + 1 - 1 = i by omega]; exact u⟩
    refine ⟨by omega, by omega, by omega, by omega, fun v => ⟨by omega, by omega, ?_⟩, fun v => ?_⟩
    · simp only [widened, el, up v]
    · simp only [widened, el, dn v]
  · rw [gt_take t (by omega)] at u
    by_cases e : j = i
    · rw [e]; exact fun c => u (byte10.2 c)
    · exact h2 j (by omega) b
  · have el : lineLo s lo = -1 + 1 := lineLo_eq ⟨by omega, by omega, fun j a b => h2 j (by omega) b, fun h => by omega⟩
    refine ⟨by omega, by omega, by omega, by omega, fun v => ⟨by omega, by omega, ?_⟩, fun v => ?_⟩
    · simp only [widened, el, up v]
    · simp only [widened, el, dn v]

theorem spans_Widen_hC : Cons Try.prog [(f_spans_Widened, spans_Widened_ct)] := ⟨spans_Widened_con, trivial⟩
theorem spans_Widen_con : Con Try.prog f_spans_Widen spans_Widen_ct := spans_Widen_vc spans_Widen_hC fun s x hs => by
  simp only [spansWiden, prod_eta]
  refine ⟨fun q => by rw [if_pos (by omega)]; exact ⟨rfl, rfl⟩, fun q => ?_⟩
  rw [if_neg (by omega)]
  refine ⟨fun r => by rw [if_pos (by omega)]; exact ⟨rfl, rfl⟩, fun r => ?_⟩
  rw [if_neg (by omega)]
  exact ⟨⟨by omega, by omega, by omega, by omega⟩, rfl, rfl⟩

theorem ref_SpansWiden_hC : Cons Try.prog [] := trivial
theorem ref_SpansWiden_con : Con Try.prog f_ref_SpansWiden ref_SpansWiden_ct := ref_SpansWiden_vc ref_SpansWiden_hC fun s x hs => by
  obtain ⟨lo, hi⟩ := x
  simp only [inI_iff, true_and, and_true, ne_eq, Int.reduceEq, not_false_eq_true, Int.toNat_zero, spansWiden]
  refine ⟨fun q => by rw [if_pos (by omega)]; exact ⟨rfl, rfl⟩, fun q => ?_⟩
  rw [if_neg (by omega)]
  refine ⟨fun r => by rw [if_pos (by omega)]; exact ⟨rfl, rfl⟩, fun r => ?_⟩
  rw [if_neg (by omega)]
  refine ⟨fun a b => b = hi ∧ 0 ≤ a ∧ a ≤ lo ∧ ∀ j, a ≤ j → j < lo → gt s j ≠ 10, fun a _ => a.toNat, ⟨rfl, by omega, by omega, fun j a b => by omega⟩, ?_⟩
  rintro a b ⟨rfl, h0, h1, h2⟩
  dsimp only
  refine ⟨fun _ => by omega, fun _ => by omega, fun _ => by omega, fun u => ⟨by omega, ⟨rfl, by omega, by omega, fun j p q => ?_⟩, by omega⟩, fun u => ?_⟩
  · by_cases e : j = a - 1
    · rw [e]; exact fun c => u.2 (byte10.2 c)
    · exact h2 j (by omega) q
  · have el : lineLo s lo = a := lineLo_eq ⟨h0, h1, h2, fun h => Classical.byContradiction fun c => u ⟨h, fun d => c (byte10.1 d)⟩⟩
    refine ⟨fun p q => p = a ∧ b ≤ q ∧ q ≤ s.length ∧ ∀ j, b ≤ j → j < q → gt s j ≠ 10, fun _ q => (s.length - q).toNat, ⟨rfl, by omega, by omega, fun j c d => by omega⟩, ?_⟩
    rintro p q ⟨rfl, g1, g2, g3⟩
    dsimp only
    rw [show q + 1 - 1 = q by omega]
    refine ⟨fun t => ⟨by omega, by omega, by omega, t, fun v => ?_, fun v => ⟨⟨rfl, by omega, by omega, fun j c d => ?_⟩, by omega⟩⟩, fun t => ?_⟩
    · have eh : lineHi s b = q + 1 := lineHi_eq ⟨by omega, by omega, fun j c d => g3 j c (by omega), fun _ => ⟨by omega, by rw [show q + 1 - 1 = q by omega]; exact byte10.1 v⟩⟩
      simp [widened, el, eh]
    · by_cases e : j = q
      · rw [e]; exact fun c => v (byte10.2 c)
      · exact g3 j c (by omega)
    · have eh : lineHi s b = q := lineHi_eq ⟨by omega, by omega, fun j c d => g3 j c (by omega), fun h => by
        rcases h with h | ⟨h, h'⟩
        · omega
        · exact absurd h' (g3 _ (by omega) (by omega))⟩
      simp [widened, el, eh]

theorem law_SpansWidens_hC : Cons Try.prog [(f_spans_Widen, spans_Widen_ct), (f_ref_SpansWiden, ref_SpansWiden_ct)] := ⟨spans_Widen_con, ref_SpansWiden_con, trivial⟩
theorem law_SpansWidens_con : Con Try.prog f_law_SpansWidens law_SpansWidens_ct := law_SpansWidens_vc law_SpansWidens_hC fun s x h => ⟨h.1, h.1, by simp⟩

end Go.Proofs.Ytcgggoaefceokaa
