/- The contracts of the functions that the law reaches, and that of the law. Conditions: none. -/
import Derived.Test.YtgiglabejffciaaWRopePlays
import Derived.Test.YtgiglabejffciaaP5
import Derived.Test.YtgiglabejffciaaR4
set_option linter.unusedVariables false
set_option linter.unusedSimpArgs false
set_option maxRecDepth 100000
namespace Go.Proofs.Ytgiglabejffciaa
open Go.Vc Go.Fu

theorem pos_Of_hC : Cons Try.prog [] := trivial
theorem pos_Of_con : Con Try.prog f_pos_Of pos_Of_ct := pos_Of_vc pos_Of_hC fun s hs => by
  simp only [inI_iff, true_and, and_true, ne_eq, Int.reduceEq, not_false_eq_true, Int.toNat_zero, ten_iff] at *
  refine ⟨fun c => by omega, fun _ => ⟨fun _ => ⟨by omega, by omega, by omega, fun i => -1 ≤ i ∧ i < s.length ∧ ∀ j : Int, i < j → j < s.length → gt s j ≠ 10, fun i => (i + 1).toNat, ⟨by omega, by omega, fun j a b => by omega⟩, ?_⟩, fun c => by omega⟩⟩
  rintro i ⟨h0, h1, h2⟩
  dsimp only
  have bd := posOf_bd s
  have ec : (↑(Lib.countByte s (gt [(10 : UInt8)] 0)) : Int) = (posOf s).2.1 := (posOf_count s).symm
  refine ⟨fun t => ⟨t, h1, fun u => ⟨by omega, by omega, ?_⟩, fun u => ⟨by omega, ⟨by omega, by omega, fun j a b => ?_⟩, by omega⟩⟩, fun t => ⟨by omega, by omega, ?_⟩⟩
  · rw [ec, ← posOf_last t h1 u h2, ← bd.1]
  · by_cases e : j = i
    · rw [e]; exact u
    · exact h2 j (by omega) b
  · have := posOf_none fun j a b => h2 j (by omega) b
    rw [ec, show (s.length : Int) - -1 - 1 = s.length by omega]
    refine Prod.ext ?_ (Prod.ext rfl ?_)
    · exact bd.1.symm
    · exact this.symm

theorem poly_Of_hC : Cons Try.prog [] := trivial
theorem poly_Of_con : Con Try.prog f_poly_Of poly_Of_ct := poly_Of_vc poly_Of_hC fun s hs => by
  simp only [inI_iff, true_and, and_true, ne_eq, Int.reduceEq, not_false_eq_true, Int.toNat_zero]
  refine ⟨fun x a b => 0 ≤ x ∧ x ≤ s.length ∧ (a, b) = polyOf (s.take x.toNat), fun x _ _ => (s.length - x).toNat, by simp [polyOf], fun x a b ⟨h0, h1, h2⟩ => ?_⟩
  dsimp only
  refine ⟨fun h => ?_, fun h => ?_⟩
  · have bd := polyOf_bd (s.take x.toNat)
    rw [← h2] at bd
    simp only at bd
    have hb := byte_lt (gt s x)
    have hb0 := byte_nn (gt s x)
    unfold fitS at hs
    rw [Int.tmod_eq_emod_of_nonneg (by omega), Int.tmod_eq_emod_of_nonneg (by omega)]
    refine ⟨by omega, h0, h, by omega, by omega, by omega, by omega, ⟨by omega, by omega, ?_⟩, by omega⟩
    rw [take_gt h0 h, polyOf_snoc, ← h2]
    rfl
  · rw [h2, List.take_of_length_le (by omega)]

theorem pos_May_hC : Cons Try.prog [] := trivial
theorem pos_May_con : Con Try.prog f_pos_May pos_May_ct := pos_May_vc pos_May_hC fun p _ => (by
  simp only [bo_eq_bo, false_bo, posOk, inI_iff]
  omega)

theorem pos_Join_hC : Cons Try.prog [(f_pos_May, pos_May_ct)] := ⟨pos_May_con, trivial⟩
theorem pos_Join_con : Con Try.prog f_pos_Join pos_Join_ct := pos_Join_vc pos_Join_hC fun a b _ => by
  simp only [prod_eta, bo_true, inI_iff, posJoin]
  refine ⟨trivial, fun _ => trivial, fun h => ?_, fun h => ?_⟩
  · rw [if_neg fun q => h.elim (fun h => h q.1) (fun h => h q.2.1)]
    exact ⟨rfl, rfl⟩
  · have h1 : posOk a := Classical.byContradiction fun q => h (.inl q)
    have h2 : posOk b := Classical.byContradiction fun q => h (.inr q)
    have b1 := h1
    have b2 := h2
    unfold posOk at b1 b2
    refine ⟨by omega, by omega, fun hz => ⟨by omega, trivial, fun q => ?_, fun q => ?_⟩, fun hz => ⟨trivial, fun q => ?_, fun q => ?_⟩⟩
    all_goals
      have e : posAdd a b = (a.1 + b.1, a.2.1 + b.2.1, if b.2.1 = 0 then a.2.2 + b.2.2 else b.2.2) := rfl
      first | rw [if_pos hz] at e | rw [if_neg hz] at e
      try rw [Int.add_comm b.2.2 a.2.2] at q
      try rw [Int.add_comm b.2.2 a.2.2]
      rw [← e] at q
    · rw [if_neg fun z => q z.2.2]; exact ⟨rfl, rfl⟩
    · rw [if_pos ⟨h1, h2, Classical.byContradiction q⟩, e]; exact ⟨rfl, rfl⟩
    · rw [if_neg fun z => q z.2.2]; exact ⟨rfl, rfl⟩
    · rw [if_pos ⟨h1, h2, Classical.byContradiction q⟩, e]; exact ⟨rfl, rfl⟩

theorem poly_May_hC : Cons Try.prog [] := trivial
theorem poly_May_con : Con Try.prog f_poly_May poly_May_ct := poly_May_vc poly_May_hC fun h _ => (by
  simp only [bo_eq_bo, polyOk]
  omega)

theorem poly_Join_hC : Cons Try.prog [(f_poly_May, poly_May_ct)] := ⟨poly_May_con, trivial⟩
theorem poly_Join_con : Con Try.prog f_poly_Join poly_Join_ct := poly_Join_vc poly_Join_hC fun a b _ => by
  simp only [prod_eta, bo_true, inI_iff, polyJoin]
  refine ⟨trivial, fun _ => trivial, fun h => ?_, fun h => ?_⟩
  · rw [if_neg fun q => h.elim (fun h => h q.1) (fun h => h q.2)]
    exact ⟨rfl, rfl⟩
  · have h1 : polyOk a := Classical.byContradiction fun q => h (.inl q)
    have h2 : polyOk b := Classical.byContradiction fun q => h (.inr q)
    rw [if_pos ⟨h1, h2⟩]
    unfold polyOk at h1 h2
    have m1 := mulB h1.1 h1.2.1 (Int.le_of_lt h2.2.2.1) h2.2.2.2
    have m2 := mulB (Int.le_of_lt h1.2.2.1) h1.2.2.2 (Int.le_of_lt h2.2.2.1) h2.2.2.2
    rw [Int.tmod_eq_emod_of_nonneg (by omega), Int.tmod_eq_emod_of_nonneg (by omega)]
    exact ⟨by omega, by omega, by omega, by omega, by omega, rfl, rfl⟩
theorem rope_Play_con : Con Try.prog f_rope_Play rope_Play_ct := P.rope_Play_con' pos_Of_con poly_Of_con pos_Join_con poly_Join_con
theorem ref_RopePlayed_con : Con Try.prog f_ref_RopePlayed ref_RopePlayed_ct := R.rope_ref_con

theorem law_sameTexts_hC : Cons Try.prog [] := trivial
theorem law_sameTexts_con : Con Try.prog f_law_sameTexts law_sameTexts_ct := law_sameTexts_vc law_sameTexts_hC fun a b h => by
  simp only [inI_iff, true_and, and_true, ne_eq, Int.reduceEq, not_false_eq_true, Int.toNat_zero, false_bo, true_bo, fitL] at *
  refine ⟨fun q e => q (by rw [e]), fun q => ⟨fun i => 0 ≤ i ∧ i ≤ a.length ∧ ∀ j : Int, 0 ≤ j → j < i → gt a j = gt b j, fun i => (a.length - i).toNat, ⟨by omega, by omega, fun j h1 h2 => by omega⟩, fun i ⟨h0, h1, h2⟩ => ?_⟩⟩
  dsimp only
  refine ⟨fun r => ⟨h0, r, h0, by omega, fun t e => t (by rw [e]), fun t => ⟨by omega, ⟨by omega, by omega, fun j j0 j1 => ?_⟩, by omega⟩⟩, fun r => ?_⟩
  · by_cases e : j = i
    · rw [e]; exact Classical.byContradiction t
    · exact h2 j j0 (by omega)
  · exact ext_gt (by omega) fun j j0 j1 => h2 j j0 (by omega)

theorem law_sameCodes_hC : Cons Try.prog [] := trivial
theorem law_sameCodes_con : Con Try.prog f_law_sameCodes law_sameCodes_ct := law_sameCodes_vc law_sameCodes_hC fun a b h => by
  simp only [inI_iff, true_and, and_true, ne_eq, Int.reduceEq, not_false_eq_true, Int.toNat_zero, false_bo, true_bo, fitL] at *
  refine ⟨fun q e => q (by rw [e]), fun q => ⟨fun i => 0 ≤ i ∧ i ≤ a.length ∧ ∀ j : Int, 0 ≤ j → j < i → gt a j = gt b j, fun i => (a.length - i).toNat, ⟨by omega, by omega, fun j h1 h2 => by omega⟩, fun i ⟨h0, h1, h2⟩ => ?_⟩⟩
  dsimp only
  refine ⟨fun r => ⟨h0, r, h0, by omega, fun t e => t (by rw [e]), fun t => ⟨by omega, ⟨by omega, by omega, fun j j0 j1 => ?_⟩, by omega⟩⟩, fun r => ?_⟩
  · by_cases e : j = i
    · rw [e]; exact Classical.byContradiction t
    · exact h2 j j0 (by omega)
  · exact ext_gt (by omega) fun j j0 j1 => h2 j j0 (by omega)

theorem law_RopePlays_hC : Cons Try.prog [(f_rope_Play, rope_Play_ct), (f_ref_RopePlayed, ref_RopePlayed_ct), (f_law_sameTexts, law_sameTexts_ct), (f_law_sameCodes, law_sameCodes_ct)] := ⟨rope_Play_con, ref_RopePlayed_con, law_sameTexts_con, law_sameCodes_con, trivial⟩
theorem law_RopePlays_con : Con Try.prog f_law_RopePlays law_RopePlays_ct := law_RopePlays_vc law_RopePlays_hC fun l h => by
  have h1 : fitL (ropeTexts l).1 := by have := (texts_ok l).1; show _ ≤ _; omega
  have h2 : fitL (ropeTexts l).2.1 := by
    unfold ropeTexts iteP
    split
    · exact Nat.zero_le _
    · show (opsC [] l).length ≤ _
      rw [opsC_len]; omega
  exact ⟨h, h, ⟨h1, h1⟩, fun _ => ⟨h2, h2⟩, by simp⟩

end Go.Proofs.Ytgiglabejffciaa
