/- The contracts of the functions that the law reaches, and that of the law. Conditions: none. -/
import Derived.Test.YtnmjgielnbajkaaWRopeDepths
import Derived.Test.YtnmjgielnbajkaaR3
import Derived.Test.YtnmjgielnbajkaaR4
set_option linter.unusedVariables false
set_option linter.unusedSimpArgs false
set_option maxRecDepth 100000
namespace Go.Proofs.Ytnmjgielnbajkaa
open Go.Vc Go.Fu

theorem pos_Of_hC : Cons Try.prog [] := trivial
theorem pos_Of_con : Con Try.prog f_pos_Of pos_Of_ct := pos_Of_vc pos_Of_hC fun s hs => by
  simp only [inI_iff, true_and, and_true, ne_eq, Int.reduceEq, not_false_eq_true, Int.toNat_zero, ten_iff] at *
  refine ⟨fun c => by omega, fun _ => ⟨fun _ => ⟨by omega, by omega, by omega, fun i => -1 ≤ i ∧ i < s.length ∧ ∀ j : Int, i < j → j < s.length → gt s j ≠ 10, fun i => (i + 1).toNat, ⟨by omega, by omega, fun j a b => by omega⟩, ?_⟩, fun c => by omega⟩⟩
  rintro i ⟨h0, h1, h2⟩
  dsimp only
  have bd := posOf_bd s
  have ec : (↑(Lib.countByte s (gt [(10 : UInt8)] 0)) : Int) = (posOf s).2.1 := (posOf_count s).symm
  refine ⟨fun t => ⟨t, h1, fun u => ⟨by omega, by omega, ?_⟩, fun u => ⟨by omega, ⟨by omega, by omega, fun j a b => ?_⟩, by omega⟩⟩, fun t => ⟨by omega, by omega, ?_⟩⟩
  · rw [ec, ← posOf_last t h1 u h2, ← bd.1]
  · by_cases e : j = i
    · rw [e]; exact u
    · exact h2 j (by omega) b
  · have := posOf_none fun j a b => h2 j (by omega) b
    rw [ec, show (s.length : Int) - -1 - 1 = s.length by omega]
    refine Prod.ext ?_ (Prod.ext rfl ?_)
    · exact bd.1.symm
    · exact this.symm

theorem poly_Of_hC : Cons Try.prog [] := trivial
theorem poly_Of_con : Con Try.prog f_poly_Of poly_Of_ct := poly_Of_vc poly_Of_hC fun s hs => by
  simp only [inI_iff, true_and, and_true, ne_eq, Int.reduceEq, not_false_eq_true, Int.toNat_zero]
  refine ⟨fun x a b => 0 ≤ x ∧ x ≤ s.length ∧ (a, b) = polyOf (s.take x.toNat), fun x _ _ => (s.length - x).toNat, by simp [polyOf], fun x a b ⟨h0, h1, h2⟩ => ?_⟩
  dsimp only
  refine ⟨fun h => ?_, fun h => ?_⟩
  · have bd := polyOf_bd (s.take x.toNat)
    rw [← h2] at bd
    simp only at bd
    have hb := byte_lt (gt s x)
    have hb0 := byte_nn (gt s x)
    unfold fitS at hs
    rw [Int.tmod_eq_emod_of_nonneg (by omega), Int.tmod_eq_emod_of_nonneg (by omega)]
    refine ⟨by omega, h0, h, by omega, by omega, by omega, by omega, ⟨by omega, by omega, ?_⟩, by omega⟩
    rw [take_gt h0 h, polyOf_snoc, ← h2]
    rfl
  · rw [h2, List.take_of_length_le (by omega)]

theorem pos_May_hC : Cons Try.prog [] := trivial
theorem pos_May_con : Con Try.prog f_pos_May pos_May_ct := pos_May_vc pos_May_hC fun p _ => (by
  simp only [bo_eq_bo, false_bo, posOk, inI_iff]
  omega)

theorem pos_Join_hC : Cons Try.prog [(f_pos_May, pos_May_ct)] := ⟨pos_May_con, trivial⟩
theorem pos_Join_con : Con Try.prog f_pos_Join pos_Join_ct := pos_Join_vc pos_Join_hC fun a b _ => by
  simp only [prod_eta, bo_true, inI_iff, posJoin]
  refine ⟨trivial, fun _ => trivial, fun h => ?_, fun h => ?_⟩
  · rw [if_neg fun q => h.elim (fun h => h q.1) (fun h => h q.2.1)]
    exact ⟨rfl, rfl⟩
  · have h1 : posOk a := Classical.byContradiction fun q => h (.inl q)
    have h2 : posOk b := Classical.byContradiction fun q => h (.inr q)
    have b1 := h1
    have b2 := h2
    unfold posOk at b1 b2
    refine ⟨by omega, by omega, fun hz => ⟨by omega, trivial, fun q => ?_, fun q => ?_⟩, fun hz => ⟨trivial, fun q => ?_, fun q => ?_⟩⟩
    all_goals
      have e : posAdd a b = (a.1 + b.1, a.2.1 + b.2.1, if b.2.1 = 0 then a.2.2 + b.2.2 else b.2.2) := rfl
      first | rw [if_pos hz] at e | rw [if_neg hz] at e
      try rw [Int.add_comm b.2.2 a.2.2] at q
      try rw [Int.add_comm b.2.2 a.2.2]
      rw [← e] at q
    · rw [if_neg fun z => q z.2.2]; exact ⟨rfl, rfl⟩
    · rw [if_pos ⟨h1, h2, Classical.byContradiction q⟩, e]; exact ⟨rfl, rfl⟩
    · rw [if_neg fun z => q z.2.2]; exact ⟨rfl, rfl⟩
    · rw [if_pos ⟨h1, h2, Classical.byContradiction q⟩, e]; exact ⟨rfl, rfl⟩

theorem poly_May_hC : Cons Try.prog [] := trivial
theorem poly_May_con : Con Try.prog f_poly_May poly_May_ct := poly_May_vc poly_May_hC fun h _ => (by
  simp only [bo_eq_bo, polyOk]
  omega)

theorem poly_Join_hC : Cons Try.prog [(f_poly_May, poly_May_ct)] := ⟨poly_May_con, trivial⟩
theorem poly_Join_con : Con Try.prog f_poly_Join poly_Join_ct := poly_Join_vc poly_Join_hC fun a b _ => by
  simp only [prod_eta, bo_true, inI_iff, polyJoin]
  refine ⟨trivial, fun _ => trivial, fun h => ?_, fun h => ?_⟩
  · rw [if_neg fun q => h.elim (fun h => h q.1) (fun h => h q.2)]
    exact ⟨rfl, rfl⟩
  · have h1 : polyOk a := Classical.byContradiction fun q => h (.inl q)
    have h2 : polyOk b := Classical.byContradiction fun q => h (.inr q)
    rw [if_pos ⟨h1, h2⟩]
    unfold polyOk at h1 h2
    have m1 := mulB h1.1 h1.2.1 (Int.le_of_lt h2.2.2.1) h2.2.2.2
    have m2 := mulB (Int.le_of_lt h1.2.2.1) h1.2.2.2 (Int.le_of_lt h2.2.2.1) h2.2.2.2
    rw [Int.tmod_eq_emod_of_nonneg (by omega), Int.tmod_eq_emod_of_nonneg (by omega)]
    exact ⟨by omega, by omega, by omega, by omega, by omega, rfl, rfl⟩
theorem rope_Depths_con : Con Try.prog f_rope_Depths rope_Depths_ct := H.rope_Depths_con' pos_Of_con poly_Of_con pos_Join_con poly_Join_con
theorem ref_RopePlayed_con : Con Try.prog f_ref_RopePlayed ref_RopePlayed_ct := R.rope_ref_con

theorem law_RopeDepths_hC : Cons Try.prog [(f_rope_Depths, rope_Depths_ct), (f_ref_RopePlayed, ref_RopePlayed_ct)] := ⟨rope_Depths_con, ref_RopePlayed_con, trivial⟩
theorem law_RopeDepths_con : Con Try.prog f_law_RopeDepths law_RopeDepths_ct := law_RopeDepths_vc law_RopeDepths_hC fun l h => by
  obtain ⟨l1, l2, hall⟩ := depthsLaw l
  have t60 := (texts_ok l).1
  refine ⟨h, h, fun q => ?_, fun q => ⟨fun i => 0 ≤ i ∧ i ≤ ((ropeTexts l).1.length : Int), fun i => (((ropeTexts l).1.length : Int) - i).toNat, ⟨rfl, rfl, rfl, Int.le_refl _, by omega⟩, fun i hi => ⟨fun lt => ?_, fun _ => rfl⟩⟩⟩
  · rcases q with q | q
    · exact absurd (by rw [l1]) q
    · exact absurd l2 q
  obtain ⟨i0, i1⟩ := hi
  obtain ⟨r, hb, hl, ht, hd⟩ := hall i i0 lt
  rw [ht, hd]
  have hp := deepO_pos hb
  refine ⟨i0, lt, fun most n => ∃ k : Nat, k ≤ 10 ∧ most = 2 * (k : Int) ∧ n = (((txtO r).length / 2 ^ k : Nat) : Int), fun _ n => n.toNat, ⟨rfl, rfl, rfl, 0, by omega, rfl, by simp⟩, ?_⟩
  rintro most n ⟨k, hk, rfl, rfl⟩
  refine ⟨fun hn => ?_, fun hn => ?_⟩
  · obtain ⟨n1, n2, n3⟩ := half_next hl hn
    have n4 : (txtO r).length / 2 ^ (k + 1) ≤ (txtO r).length := Nat.div_le_self _ _
    rw [n2]
    have e1 : ∃ q : Nat, q = (txtO r).length / 2 ^ (k + 1) := ⟨_, rfl⟩
    have e2 : ∃ q : Nat, q = (txtO r).length / 2 ^ k := ⟨_, rfl⟩
    obtain ⟨q1, hq1⟩ := e1
    obtain ⟨q2, hq2⟩ := e2
    rw [← hq1] at n3 n4
    rw [← hq2] at n3
    rw [← hq1, ← hq2]
    refine ⟨by constructor <;> omega, by decide, by constructor <;> omega, rfl, rfl, rfl, ⟨k + 1, n1, by omega, by rw [hq1]⟩, by (try dsimp only); omega⟩
  · have hz : (txtO r).length / 2 ^ k = 0 := Nat.eq_zero_of_not_pos fun z => hn (Int.natCast_pos.2 z)
    have hlt : (txtO r).length < 2 ^ k := by
      rcases Nat.div_eq_zero_iff.1 hz with z | z
      · exact absurd z (Nat.ne_of_gt (Nat.pow_pos (by omega)))
      · exact z
    have hde := deepO_le hb hlt
    have hm : ¬ iteP (txtO r ≠ []) (2 * (k : Int) + 2) (2 * (k : Int)) < (deepO r : Int) := by
      unfold iteP; split <;> omega
    refine ⟨i0, lt, fun _ => by constructor <;> omega, i0, by omega, fun _ => i0, fun _ => by omega, fun _ => i0, fun _ => lt, fun _ => i0, fun _ => by omega, fun q => ?_, fun _ => ⟨by constructor <;> omega, rfl, rfl, rfl, ⟨by omega, by omega⟩, by (try dsimp only); omega⟩⟩
    exfalso
    rcases q with (q | q) | q
    · exact hm q
    · exact q hp
    · omega

end Go.Proofs.Ytnmjgielnbajkaa
