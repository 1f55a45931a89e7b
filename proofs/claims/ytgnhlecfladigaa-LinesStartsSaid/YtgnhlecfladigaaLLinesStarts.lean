/- The contracts of the functions that the law reaches, and that of the law. Conditions: none. -/
import Derived.Test.YtgnhlecfladigaaWLinesStarts
set_option linter.unusedVariables false
set_option linter.unusedSimpArgs false
set_option maxRecDepth 100000
namespace Go.Proofs.Ytgnhlecfladigaa
open Go.Vc Go.Fu

theorem lines_Of_hC : Cons Try.prog [] := trivial
theorem lines_Of_con : Con Try.prog f_lines_Of lines_Of_ct := lines_Of_vc lines_Of_hC fun s hs => by
  simp only [inI_iff, true_and, and_true, ne_eq, Int.reduceEq, not_false_eq_true, Int.toNat_zero]
  refine ⟨fun x l => 0 ≤ x ∧ x ≤ s.length ∧ l.length ≤ x + 1 ∧ l ++ startsFrom x (s.drop x.toNat) = startsOf s, fun x _ => (s.length - x).toNat, ⟨by omega, by omega, by simp, by simp [startsOf]⟩, fun x l ⟨h0, h1, h2, h3⟩ => ?_⟩
  dsimp only
  refine ⟨fun q => ?_, fun q => ?_⟩
  · rw [drop_gt h0 q] at h3
    simp only [startsFrom] at h3
    refine ⟨h0, q, fun r => ?_, fun r => ?_⟩
    · rw [if_pos (byte10.1 r)] at h3
      refine ⟨by omega, by omega, by omega, ⟨by omega, by omega, by simp; omega, by simpa using h3⟩, by omega⟩
    · rw [if_neg fun e => r (byte10.2 e)] at h3
      exact ⟨by omega, ⟨by omega, by omega, by omega, h3⟩, by omega⟩
  · rw [List.drop_of_length_le (by omega)] at h3
    simpa [startsFrom] using h3

theorem lines_Starts_hC : Cons Try.prog [(f_lines_Of, lines_Of_ct)] := ⟨lines_Of_con, trivial⟩
theorem lines_Starts_con : Con Try.prog f_lines_Starts lines_Starts_ct := lines_Starts_vc lines_Starts_hC fun s hs => by
  simp only [linesStarts]
  refine ⟨fun q => by rw [if_pos (by omega)]; exact ⟨rfl, rfl⟩, fun q => ⟨by omega, by rw [if_neg (by omega)]; exact ⟨rfl, rfl⟩⟩⟩

theorem ref_cutLines_hC : Cons Try.prog [] := trivial
theorem ref_cutLines_con : Con Try.prog f_ref_cutLines ref_cutLines_ct := ref_cutLines_vc ref_cutLines_hC fun s hs => by
  simp only [inI_iff, true_and, and_true, ne_eq, Int.reduceEq, not_false_eq_true, Int.toNat_zero]
  refine ⟨fun i out => 0 ≤ i ∧ i ≤ s.length ∧ out ≠ [] ∧ out.length ≤ i + 1 ∧ (out.getLastD []).length ≤ i ∧ cutLines s = (s.drop i.toNat).foldl cutStep out, fun i _ => (s.length - i).toNat, ⟨by omega, by omega, by simp, by simp, by simp, by simp [cutLines]⟩, fun i out ⟨h0, h1, h2, h3, h4, h5⟩ => ?_⟩
  dsimp only
  refine ⟨fun q => ?_, fun q => ?_⟩
  · have hl : 0 < out.length := List.length_pos_iff.2 h2
    rw [drop_gt h0 q, List.foldl_cons] at h5
    refine ⟨h0, q, fun r => ?_, fun r => ?_⟩
    · have e : cutStep out (gt s i) = out ++ [[]] := by simp [cutStep, byte10.1 r]
      rw [e] at h5
      exact ⟨by omega, by omega, ⟨by omega, by omega, by simp, by simp; omega, by simp; omega, h5⟩, by omega⟩
    · have e : cutStep out (gt s i) = out.dropLast ++ [out.getLastD [] ++ [gt s i]] := by simp only [cutStep]; rw [if_neg fun e => r (byte10.2 e)]
      rw [e] at h5
      have e2 : (((out.length : Int) - 1).toNat) = out.length - 1 := by omega
      rw [sub_one h0 q, gt_last (d := []) h2, e2, set_last _ _ h2]
      refine ⟨by omega, by omega, by omega, by omega, by omega, by omega, by omega, by simp only [List.length_cons, List.length_nil]; omega, by omega, by omega, by omega, ⟨by omega, by omega, by simp, by simp; omega, by rw [List.getLastD_concat]; simp only [List.length_append, List.length_cons, List.length_nil]; omega, h5⟩, by omega⟩
  · rw [List.drop_of_length_le (by omega)] at h5
    simpa using h5.symm

theorem ref_LinesStarts_hC : Cons Try.prog [(f_ref_cutLines, ref_cutLines_ct)] := ⟨ref_cutLines_con, trivial⟩
theorem ref_LinesStarts_con : Con Try.prog f_ref_LinesStarts ref_LinesStarts_ct := ref_LinesStarts_vc ref_LinesStarts_hC fun s hs => by
  simp only [inI_iff, true_and, and_true, ne_eq, Int.reduceEq, not_false_eq_true, Int.toNat_zero, linesStarts]
  have hc := cutLines_len s
  refine ⟨fun q => by rw [if_pos (by omega)]; exact ⟨rfl, rfl⟩, fun q => ⟨by omega, ?_⟩⟩
  rw [if_neg (by omega)]
  refine ⟨fun a x out => 0 ≤ x ∧ x ≤ (cutLines s).length ∧ 0 ≤ a ∧ a ≤ x * 601 ∧ out.length = x ∧ out ++ sumStarts a ((cutLines s).drop x.toNat) = startsOf s, fun _ x _ => ((cutLines s).length - x).toNat, ⟨by omega, by omega, by omega, by omega, rfl, by simpa using sum_cut s⟩, fun a x out ⟨h0, h1, h2, h3, h4, h5⟩ => ?_⟩
  dsimp only
  refine ⟨fun r => ?_, fun r => ?_⟩
  · rw [drop_gt h0 r] at h5
    simp only [sumStarts] at h5
    have hm := hc.2 _ (gt_mem h0 r)
    refine ⟨h0, r, by omega, by omega, by omega, by omega, ⟨by omega, by omega, by omega, by omega, by simp; omega, ?_⟩, by omega⟩
    rw [← Int.add_assoc]
    simpa using h5
  · rw [List.drop_of_length_le (by omega)] at h5
    exact ⟨by simpa [sumStarts] using h5, rfl⟩

theorem law_sameInts_hC : Cons Try.prog [] := trivial
theorem law_sameInts_con : Con Try.prog f_law_sameInts law_sameInts_ct := law_sameInts_vc law_sameInts_hC fun a b h => by
  simp only [inI_iff, true_and, and_true, ne_eq, Int.reduceEq, not_false_eq_true, Int.toNat_zero, false_bo, true_bo, fitL] at *
  refine ⟨fun q e => q (by rw [e]), fun q => ⟨fun i => 0 ≤ i ∧ i ≤ a.length ∧ ∀ j : Int, 0 ≤ j → j < i → gt a j = gt b j, fun i => (a.length - i).toNat, ⟨by omega, by omega, fun j h1 h2 => by omega⟩, fun i ⟨h0, h1, h2⟩ => ?_⟩⟩
  dsimp only
  refine ⟨fun r => ⟨h0, r, h0, by omega, fun t e => t (by rw [e]), fun t => ⟨by omega, ⟨by omega, by omega, fun j j0 j1 => ?_⟩, by omega⟩⟩, fun r => ?_⟩
  · by_cases e : j = i
    · rw [e]; exact Classical.byContradiction t
    · exact h2 j j0 (by omega)
  · exact ext_gt (by omega) fun j j0 j1 => h2 j j0 (by omega)

theorem law_LinesStarts_hC : Cons Try.prog [(f_lines_Starts, lines_Starts_ct), (f_ref_LinesStarts, ref_LinesStarts_ct), (f_law_sameInts, law_sameInts_ct)] := ⟨lines_Starts_con, ref_LinesStarts_con, law_sameInts_con, trivial⟩
theorem law_LinesStarts_con : Con Try.prog f_law_LinesStarts law_LinesStarts_ct := law_LinesStarts_vc law_LinesStarts_hC fun s hs => by
  refine ⟨hs, hs, ?_, by simp⟩
  have : fitL (linesStarts s).1 := by
    unfold linesStarts fitL
    split
    · simp
    · have := startsFrom_len s 0
      simp [startsOf]
      omega
  exact ⟨this, this⟩

end Go.Proofs.Ytgnhlecfladigaa
