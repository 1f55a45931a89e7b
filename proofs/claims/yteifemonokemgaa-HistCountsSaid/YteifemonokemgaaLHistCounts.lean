/- The contracts of the functions that the law reaches, and that of the law. Conditions: none. -/
import Derived.Test.YteifemonokemgaaWHistCounts
import Derived.Test.YteifemonokemgaaH3
import Derived.Test.YteifemonokemgaaH4
set_option linter.unusedVariables false
set_option linter.unusedSimpArgs false
set_option maxRecDepth 100000
namespace Go.Proofs.Yteifemonokemgaa
open Go.Vc Go.Fu

theorem edit_Check_hC : Cons Try.prog [] := trivial
theorem edit_Check_con : Con Try.prog f_edit_Check edit_Check_ct := edit_Check_vc edit_Check_hC fun size e ⟨h1, h2, h3, h4⟩ => (by
  simp only [inI_iff, fitS, editFault] at *
  refine ⟨fun h => by omega, fun h => ?_, fun h => ⟨by omega, by omega, fun g => ?_, fun g => ?_⟩⟩
  · rw [if_pos (by omega)]
  · rw [if_neg (by omega), if_pos (by omega)]
  · rw [if_neg (by omega), if_neg (by omega)])

theorem edit_Made_hC : Cons Try.prog [] := trivial
theorem edit_Made_con : Con Try.prog f_edit_Made edit_Made_ct := edit_Made_vc edit_Made_hC fun s e h => by
  have h' := editMay_iff.1 h
  have e1 : List.take ((s.length : Int)).toNat s = s := List.take_of_length_le (by omega)
  simp only [inI_iff, true_and, and_true, ne_eq, Int.reduceEq, not_false_eq_true, Int.toNat_zero, e1, List.drop_zero, List.length_append, List.length_take, List.length_drop, editMade]
  exact ⟨by omega, by omega, by omega, by omega, by omega, by omega, by omega, by omega, by omega⟩

theorem edit_Undo_hC : Cons Try.prog [] := trivial
theorem edit_Undo_con : Con Try.prog f_edit_Undo edit_Undo_ct := edit_Undo_vc edit_Undo_hC fun s e h => by
  have h' := editMay_iff.1 h
  simp only [inI_iff, true_and, and_true, ne_eq, Int.reduceEq, not_false_eq_true, Int.toNat_zero]
  exact ⟨by omega, by omega, by omega, by omega, rfl⟩
theorem hist_Counts_con : Con Try.prog f_hist_Counts hist_Counts_ct := H.hist_counts_con edit_Check_con edit_Made_con edit_Undo_con

theorem ref_EditFault_hC : Cons Try.prog [] := trivial
theorem ref_EditFault_con : Con Try.prog f_ref_EditFault ref_EditFault_ct := ref_EditFault_vc ref_EditFault_hC fun size e ⟨h1, h2, h3, h4⟩ => (by
  simp only [inI_iff, fitS, editFault] at *
  refine ⟨fun h => by omega, fun h => ?_, fun h => ⟨by omega, by omega, fun g => ?_, fun g => ?_⟩⟩
  · rw [if_pos (by omega)]
  · rw [if_neg (by omega), if_pos (by omega)]
  · rw [if_neg (by omega), if_neg (by omega)])

theorem ref_editMade_hC : Cons Try.prog [] := trivial
theorem ref_editMade_con : Con Try.prog f_ref_editMade ref_editMade_ct := ref_editMade_vc ref_editMade_hC fun s e h => by
  have h' := editMay_iff.1 h
  simp only [inI_iff, true_and, and_true, ne_eq, Int.reduceEq, not_false_eq_true, Int.toNat_zero]
  obtain ⟨a, c, p⟩ := e
  dsimp only at *
  refine ⟨fun out i => 0 ≤ i ∧ i ≤ s.length + 1 ∧ out = if i ≤ a then s.take i.toNat else s.take a.toNat ++ p ++ (s.take i.toNat).drop (a + c).toNat, fun _ i => (s.length + 1 - i).toNat, ⟨by omega, by omega, by rw [if_pos (by omega)]; simp⟩, ?_⟩
  rintro out i ⟨h0, h1, h2⟩
  dsimp only
  have hl : out.length ≤ 1300 := by
    rw [h2]; split <;> (try simp only [List.length_append, List.length_take, List.length_drop]) <;> omega
  refine ⟨fun t => ⟨fun _ => by omega, fun _ => by omega, fun _ => by omega, fun _ => by omega, fun _ => by omega, fun _ => by omega, fun u => ?_, by omega, ⟨by omega, by omega, ?_⟩, by omega⟩, fun t => ?_⟩
  · by_cases e : i = a
    · rw [iteP_pos e]; simp only [List.length_append, List.length_take, List.length_drop]; omega
    · rw [iteP_neg e]; simp only [List.length_append, List.length_take, List.length_drop]; omega
  · by_cases u : i < s.length ∧ (i < a ∨ a + c ≤ i)
    · rw [iteP_pos u, sub_one h0 u.1]
      by_cases e : i = a
      · rw [iteP_pos e, if_neg (by omega), h2, if_pos (by omega), take_gt h0 u.1, ← e]
        have : ((List.take i.toNat s ++ [gt s i]).drop (i + c).toNat) = [gt s i] := by
          rw [show (i + c).toNat = i.toNat by omega]
          exact List.drop_left' (by simp only [List.length_take]; omega)
        rw [this]
      · rw [iteP_neg e, h2]
        by_cases q : i < a
        · rw [if_pos (by omega), if_pos (by omega), take_gt h0 u.1]
        · rw [if_neg (by omega), if_neg (by omega), take_gt h0 u.1, List.drop_append_of_le_length (by simp only [List.length_take]; omega), List.append_assoc]
    · rw [iteP_neg u]
      by_cases e : i = a
      · rw [iteP_pos e, if_neg (by omega), h2, if_pos (by omega)]
        have : (List.take (i + 1).toNat s).drop (a + c).toNat = [] := List.drop_of_length_le (by simp only [List.length_take]; omega)
        rw [this, ← e]; simp
      · rw [iteP_neg e, h2, if_neg (by omega), if_neg (by omega)]
        by_cases q : i < s.length
        · rw [List.drop_of_length_le (by simp only [List.length_take]; omega), List.drop_of_length_le (by simp only [List.length_take]; omega)]
        · rw [List.take_of_length_le (i := i.toNat) (by omega), List.take_of_length_le (i := (i + 1).toNat) (by omega)]
  · rw [h2, if_neg (by omega), List.take_of_length_le (l := s) (i := i.toNat) (by omega)]; rfl
theorem ref_HistPlayed_con : Con Try.prog f_ref_HistPlayed ref_HistPlayed_ct := R.hist_ref_con ref_EditFault_con ref_editMade_con

theorem law_HistCounts_hC : Cons Try.prog [(f_hist_Counts, hist_Counts_ct), (f_ref_HistPlayed, ref_HistPlayed_ct)] := ⟨hist_Counts_con, ref_HistPlayed_con, trivial⟩
theorem law_HistCounts_con : Con Try.prog f_law_HistCounts law_HistCounts_ct := law_HistCounts_vc law_HistCounts_hC fun text l h => by
  have hp := hist_pre h
  exact ⟨hp, hp, by simp [hist_code]⟩

end Go.Proofs.Yteifemonokemgaa
