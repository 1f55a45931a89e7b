/- The contracts of the functions that the law reaches, and that of the law. Conditions: none. -/
import Derived.Test.YtmknkkafindicaaWPosAts
set_option linter.unusedVariables false
set_option linter.unusedSimpArgs false
set_option maxRecDepth 100000
namespace Go.Proofs.Ytmknkkafindicaa
open Go.Vc Go.Fu

theorem pos_Of_hC : Cons Try.prog [] := trivial
theorem pos_Of_con : Con Try.prog f_pos_Of pos_Of_ct := pos_Of_vc pos_Of_hC fun s hs => by
  simp only [inI_iff, true_and, and_true, ne_eq, Int.reduceEq, not_false_eq_true, Int.toNat_zero, ten_iff] at *
  refine ⟨fun c => by omega, fun _ => ⟨fun _ => ⟨by omega, by omega, by omega, fun i => -1 ≤ i ∧ i < s.length ∧ ∀ j : Int, i < j → j < s.length → gt s j ≠ 10, fun i => (i + 1).toNat, ⟨by omega, by omega, fun j a b => by omega⟩, ?_⟩, fun c => by omega⟩⟩
  rintro i ⟨h0, h1, h2⟩
  dsimp only
  have bd := posOf_bd s
  have ec : (↑(Lib.countByte s (gt [(10 : UInt8)] 0)) : Int) = (posOf s).2.1 := (posOf_count s).symm
  refine ⟨fun t => ⟨t, h1, fun u => ⟨by omega, by omega, ?_⟩, fun u => ⟨by omega, ⟨by omega, by omega, fun j a b => ?_⟩, by omega⟩⟩, fun t => ⟨by omega, by omega, ?_⟩⟩
  · rw [ec, ← posOf_last t h1 u h2, ← bd.1]
  · by_cases e : j = i
    · rw [e]; exact u
    · exact h2 j (by omega) b
  · have := posOf_none fun j a b => h2 j (by omega) b
    rw [ec, show (s.length : Int) - -1 - 1 = s.length by omega]
    refine Prod.ext ?_ (Prod.ext rfl ?_)
    · exact bd.1.symm
    · exact this.symm

theorem pos_At_hC : Cons Try.prog [(f_pos_Of, pos_Of_ct)] := ⟨pos_Of_con, trivial⟩
theorem pos_At_con : Con Try.prog f_pos_At pos_At_ct := pos_At_vc pos_At_hC fun s a hs => by
  simp only [inI_iff, true_and, and_true, ne_eq, Int.reduceEq, not_false_eq_true, Int.toNat_zero, posAt, fitS, List.drop_zero, prod_eta] at *
  refine ⟨fun c => by rw [if_pos c]; exact ⟨rfl, rfl⟩, fun c => ⟨by omega, by omega, by omega, by simp only [List.length_take]; omega, by rw [if_neg c]; exact ⟨rfl, rfl⟩⟩⟩

theorem ref_PosOf_hC : Cons Try.prog [] := trivial
theorem ref_PosOf_con : Con Try.prog f_ref_PosOf ref_PosOf_ct := ref_PosOf_vc ref_PosOf_hC fun s hs => by
  simp only [inI_iff, true_and, and_true, ne_eq, Int.reduceEq, not_false_eq_true, Int.toNat_zero]
  refine ⟨fun i p q r => 0 ≤ i ∧ i ≤ s.length ∧ (p, q, r) = posOf (s.take i.toNat) ∧ p = i ∧ 0 ≤ q ∧ q ≤ i ∧ 0 ≤ r ∧ r ≤ i, fun i _ _ _ => (s.length - i).toNat, by simp [posOf], ?_⟩
  rintro i p q r ⟨h0, h1, h2, h3, h4, h5, h6, h7⟩
  dsimp only
  refine ⟨fun t => ⟨by omega, by omega, h0, t, fun u => ⟨by omega, by omega, ⟨by omega, by omega, ?_, by omega, by omega, by omega, by omega, by omega⟩, by omega⟩, fun u => ⟨by omega, ⟨by omega, by omega, ?_, by omega, by omega, by omega, by omega, by omega⟩, by omega⟩⟩, fun t => ?_⟩
  · rw [posOf_succ h0 t, ← h2]
    simp only [posStep, if_pos (byte10.1 u)]
  · rw [posOf_succ h0 t, ← h2]
    simp only [posStep, if_neg fun e => u (byte10.2 e)]
  · rw [h2, List.take_of_length_le (by omega)]

theorem ref_PosAt_hC : Cons Try.prog [(f_ref_PosOf, ref_PosOf_ct)] := ⟨ref_PosOf_con, trivial⟩
theorem ref_PosAt_con : Con Try.prog f_ref_PosAt ref_PosAt_ct := ref_PosAt_vc ref_PosAt_hC fun s a hs => by
  simp only [inI_iff, true_and, and_true, ne_eq, Int.reduceEq, not_false_eq_true, Int.toNat_zero, posAt, fitS, List.drop_zero, prod_eta] at *
  refine ⟨fun c => by rw [if_pos c]; exact ⟨rfl, rfl⟩, fun c => ⟨by omega, by omega, by omega, by simp only [List.length_take]; omega, by rw [if_neg c]; exact ⟨rfl, rfl⟩⟩⟩

theorem law_PosAts_hC : Cons Try.prog [(f_pos_At, pos_At_ct), (f_ref_PosAt, ref_PosAt_ct)] := ⟨pos_At_con, ref_PosAt_con, trivial⟩
theorem law_PosAts_con : Con Try.prog f_law_PosAts law_PosAts_ct := law_PosAts_vc law_PosAts_hC fun s a h => ⟨h.1, h.1, by simp⟩

end Go.Proofs.Ytmknkkafindicaa
