/- The contracts of the functions that the law reaches, and that of the law. Conditions: none. -/
import Derived.Test.YtakkifkpihdcnaaDoorWPolyLineses
import Derived.Test.YtakkifkpihdcnaaDoorP2
set_option linter.unusedVariables false
set_option linter.unusedSimpArgs false
set_option maxRecDepth 100000
namespace Go.Proofs.YtakkifkpihdcnaaDoor
open Go.Vc Go.Fu

theorem poly_Of_hC : Cons Tryd.prog [] := trivial
theorem poly_Of_con : Con Tryd.prog f_poly_Of poly_Of_ct := poly_Of_vc poly_Of_hC fun s hs => by
  simp only [inI_iff, true_and, and_true, ne_eq, Int.reduceEq, not_false_eq_true, Int.toNat_zero]
  refine ⟨fun x a b => 0 ≤ x ∧ x ≤ s.length ∧ (a, b) = polyOf (s.take x.toNat), fun x _ _ => (s.length - x).toNat, by simp [polyOf], fun x a b ⟨h0, h1, h2⟩ => ?_⟩
  dsimp only
  refine ⟨fun h => ?_, fun h => ?_⟩
  · have bd := polyOf_bd (s.take x.toNat)
    rw [← h2] at bd
    simp only at bd
    have hb := byte_lt (gt s x)
    have hb0 := byte_nn (gt s x)
    unfold fitS at hs
    rw [Int.tmod_eq_emod_of_nonneg (by omega), Int.tmod_eq_emod_of_nonneg (by omega)]
    refine ⟨by omega, h0, h, by omega, by omega, by omega, by omega, ⟨by omega, by omega, ?_⟩, by omega⟩
    rw [take_gt h0 h, polyOf_snoc, ← h2]
    rfl
  · rw [h2, List.take_of_length_le (by omega)]
theorem poly_Lines_con : Con Tryd.prog f_poly_Lines poly_Lines_ct := P.poly_Lines_con poly_Of_con

theorem ref_cutLines_hC : Cons Tryd.prog [] := trivial
theorem ref_cutLines_con : Con Tryd.prog f_ref_cutLines ref_cutLines_ct := ref_cutLines_vc ref_cutLines_hC fun s hs => by
  simp only [inI_iff, true_and, and_true, ne_eq, Int.reduceEq, not_false_eq_true, Int.toNat_zero]
  refine ⟨fun i out => 0 ≤ i ∧ i ≤ s.length ∧ out ≠ [] ∧ out.length ≤ i + 1 ∧ (out.getLastD []).length ≤ i ∧ cutLines s = (s.drop i.toNat).foldl cutStep out, fun i _ => (s.length - i).toNat, ⟨by omega, by omega, by simp, by simp, by simp, by simp [cutLines]⟩, fun i out ⟨h0, h1, h2, h3, h4, h5⟩ => ?_⟩
  dsimp only
  refine ⟨fun q => ?_, fun q => ?_⟩
  · have hl : 0 < out.length := List.length_pos_iff.2 h2
    rw [drop_gt h0 q, List.foldl_cons] at h5
    refine ⟨h0, q, fun r => ?_, fun r => ?_⟩
    · have e : cutStep out (gt s i) = out ++ [[]] := by simp [cutStep, byte10.1 r]
      rw [e] at h5
      exact ⟨by omega, by omega, ⟨by omega, by omega, by simp, by simp; omega, by simp; omega, h5⟩, by omega⟩
    · have e : cutStep out (gt s i) = out.dropLast ++ [out.getLastD [] ++ [gt s i]] := by simp only [cutStep]; rw [if_neg fun e => r (byte10.2 e)]
      rw [e] at h5
      have e2 : (((out.length : Int) - 1).toNat) = out.length - 1 := by omega
      rw [sub_one h0 q, gt_last (d := []) h2, e2, set_last _ _ h2]
      refine ⟨by omega, by omega, by omega, by omega, by omega, by omega, by omega, by simp only [List.length_cons, List.length_nil]; omega, by omega, by omega, by omega, ⟨by omega, by omega, by simp, by simp; omega, by rw [List.getLastD_concat]; simp only [List.length_append, List.length_cons, List.length_nil]; omega, h5⟩, by omega⟩
  · rw [List.drop_of_length_le (by omega)] at h5
    simpa using h5.symm

theorem ref_PolyOf_hC : Cons Tryd.prog [] := trivial
theorem ref_PolyOf_con : Con Tryd.prog f_ref_PolyOf ref_PolyOf_ct := ref_PolyOf_vc ref_PolyOf_hC fun s hs => by
  simp only [inI_iff, true_and, and_true, ne_eq, Int.reduceEq, not_false_eq_true, Int.toNat_zero]
  unfold fitS at hs
  refine ⟨by omega, fun p q i => -1 ≤ i ∧ i < s.length ∧ (q, p) = polyOf (s.drop (i + 1).toNat), fun _ _ i => (i + 1).toNat, ⟨by omega, by omega, ?_⟩, fun p q i ⟨h0, h1, h2⟩ => ?_⟩
  · rw [List.drop_of_length_le (by omega)]; rfl
  dsimp only
  refine ⟨fun h => ?_, fun h => ?_⟩
  · have bd := polyOf_bd (s.drop (i + 1).toNat)
    rw [← h2] at bd
    simp only at bd
    have hb := byte_lt (gt s i)
    have hb0 := byte_nn (gt s i)
    have m : 0 ≤ ((gt s i).toNat + 1 : Int) * p ∧ ((gt s i).toNat + 1 : Int) * p ≤ 4611686009837453316 := mulB (by omega) (by omega) bd.2.2.1 bd.2.2.2
    rw [Int.tmod_eq_emod_of_nonneg (by omega), Int.tmod_eq_emod_of_nonneg (by omega)]
    refine ⟨h, h1, by omega, by omega, by omega, by omega, by omega, ⟨by omega, by omega, ?_⟩, by omega⟩
    rw [show i - 1 + 1 = i by omega, drop_gt h h1, polyOf_cons, ← h2]
    exact Prod.ext (by simp only; omega) rfl
  · rw [h2, show (i + 1).toNat = 0 by omega, List.drop_zero]

theorem ref_PolyLines_hC : Cons Tryd.prog [(f_ref_cutLines, ref_cutLines_ct), (f_ref_PolyOf, ref_PolyOf_ct)] := ⟨ref_cutLines_con, ref_PolyOf_con, trivial⟩
theorem ref_PolyLines_con : Con Tryd.prog f_ref_PolyLines ref_PolyLines_ct := ref_PolyLines_vc ref_PolyLines_hC fun s _ => by
  refine ⟨fun q => ?_, fun q => ?_⟩
  · have e : polyLines s = ([], 1) := by unfold polyLines; rw [if_pos (by omega)]
    rw [e]; exact ⟨rfl, rfl⟩
  have e : polyLines s = ((cutLines s).map fun l => (polyOf l).1, 0) := by unfold polyLines; rw [if_neg (by omega)]
  have hcl := cutLines_len s
  rw [e]
  simp only [inI_iff, true_and, and_true, ne_eq, Int.reduceEq, not_false_eq_true, Int.toNat_zero]
  refine ⟨by omega, fun x out => 0 ≤ x ∧ x ≤ (cutLines s).length ∧ out = ((cutLines s).take x.toNat).map fun l => (polyOf l).1, fun x _ => ((cutLines s).length - x).toNat, ⟨by omega, by omega, by simp⟩, fun x out ⟨h0, h1, h2⟩ => ?_⟩
  dsimp only
  have hl : out.length = x.toNat := by rw [h2, List.length_map, List.length_take]; omega
  refine ⟨fun r => ?_, fun r => ?_⟩
  · have hg : (gt (cutLines s) x).length ≤ s.length := hcl.2 _ (gt_mem h0 r)
    refine ⟨h0, r, by show _ ≤ 140737488351232; omega, by omega, by omega, ⟨by omega, by omega, ?_⟩, by omega⟩
    rw [take_gt h0 r, h2, List.map_append]; rfl
  · rw [h2, List.take_of_length_le (by omega)]

theorem law_sameInts_hC : Cons Tryd.prog [] := trivial
theorem law_sameInts_con : Con Tryd.prog f_law_sameInts law_sameInts_ct := law_sameInts_vc law_sameInts_hC fun a b h => by
  simp only [inI_iff, true_and, and_true, ne_eq, Int.reduceEq, not_false_eq_true, Int.toNat_zero, false_bo, true_bo, fitL] at *
  refine ⟨fun q e => q (by rw [e]), fun q => ⟨fun i => 0 ≤ i ∧ i ≤ a.length ∧ ∀ j : Int, 0 ≤ j → j < i → gt a j = gt b j, fun i => (a.length - i).toNat, ⟨by omega, by omega, fun j h1 h2 => by omega⟩, fun i ⟨h0, h1, h2⟩ => ?_⟩⟩
  dsimp only
  refine ⟨fun r => ⟨h0, r, h0, by omega, fun t e => t (by rw [e]), fun t => ⟨by omega, ⟨by omega, by omega, fun j j0 j1 => ?_⟩, by omega⟩⟩, fun r => ?_⟩
  · by_cases e : j = i
    · rw [e]; exact Classical.byContradiction t
    · exact h2 j j0 (by omega)
  · exact ext_gt (by omega) fun j j0 j1 => h2 j j0 (by omega)

theorem law_PolyLineses_hC : Cons Tryd.prog [(f_poly_Lines, poly_Lines_ct), (f_ref_PolyLines, ref_PolyLines_ct), (f_law_sameInts, law_sameInts_ct)] := ⟨poly_Lines_con, ref_PolyLines_con, law_sameInts_con, trivial⟩
theorem law_PolyLineses_con : Con Tryd.prog f_law_PolyLineses law_PolyLineses_ct := law_PolyLineses_vc law_PolyLineses_hC fun s hs => by
  have hcl := cutLines_len s
  have : fitL (polyLines s).1 := by
    unfold polyLines
    split
    · exact Nat.zero_le _
    · show (List.map _ _).length ≤ _
      rw [List.length_map]; omega
  exact ⟨trivial, trivial, ⟨this, this⟩, by simp⟩

end Go.Proofs.YtakkifkpihdcnaaDoor
