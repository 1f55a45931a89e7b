/- The contracts of the functions that the law reaches, and that of the law. Conditions: none. -/
import Derived.Test.YtgnhlecfladigaaWEditPlaces
set_option linter.unusedVariables false
set_option linter.unusedSimpArgs false
set_option maxRecDepth 100000
namespace Go.Proofs.Ytgnhlecfladigaa
open Go.Vc Go.Fu

theorem edit_Moved_hC : Cons Try.prog [] := trivial
theorem edit_Moved_con : Con Try.prog f_edit_Moved edit_Moved_ct := edit_Moved_vc edit_Moved_hC fun e at_ right h => by
  simp only [inI_iff, movedPre, fitS, moved] at *
  refine ⟨fun q => by rw [if_pos q], fun q => ⟨fun _ _ => by omega, fun r => ⟨by omega, by omega, by rw [if_neg q, if_pos r]⟩, fun r => ⟨fun t => ⟨by omega, by rw [if_neg q, if_neg r, if_pos t]⟩, fun t => by rw [if_neg q, if_neg r, if_neg t]⟩⟩⟩

theorem edit_Place_hC : Cons Try.prog [(f_edit_Moved, edit_Moved_ct)] := ⟨edit_Moved_con, trivial⟩
theorem edit_Place_con : Con Try.prog f_edit_Place edit_Place_ct := edit_Place_vc edit_Place_hC fun e at_ right h => by
  simp only [inI_iff, true_and, and_true, ne_eq, Int.reduceEq, not_false_eq_true, Int.toNat_zero, fitS, placed, iteP_if, prod_eta] at *
  refine ⟨fun x => 0 ≤ x ∧ x ≤ 3 ∧ (0 < x → 0 ≤ e.1 ∧ e.1 ≤ 1099511627776) ∧ (1 < x → 0 ≤ e.2.1 ∧ e.2.1 ≤ 1099511627776) ∧ (2 < x → 0 ≤ at_ ∧ at_ ≤ 1099511627776), fun x => (3 - x).toNat, by omega, fun x hx => ?_⟩
  dsimp only at hx ⊢
  refine ⟨fun q => ?_, fun q => ?_⟩
  · have : x = 0 ∨ x = 1 ∨ x = 2 := by omega
    rcases this with rfl | rfl | rfl
    all_goals
      simp
      first
        | (intro r; rw [if_pos (by omega)]; exact ⟨rfl, rfl⟩)
        | (refine ⟨fun r => ?_, fun r => by omega⟩; rw [if_pos (by omega)]; exact ⟨rfl, rfl⟩)
  · rw [if_neg (by omega)]
    exact ⟨by omega, rfl, rfl⟩

theorem ref_editPlace_hC : Cons Try.prog [] := trivial
theorem ref_editPlace_con : Con Try.prog f_ref_editPlace ref_editPlace_ct := ref_editPlace_vc ref_editPlace_hC fun e at_ right h => by
  simp only [inI_iff, movedPre, fitS, moved] at *
  refine ⟨fun q => by rw [if_pos q], fun q => ⟨by omega, fun r => ⟨by omega, by omega, ?_⟩, fun r => ⟨fun t => ⟨by omega, ?_⟩, fun t => ?_⟩⟩⟩
  · rw [if_neg q, if_pos (by omega)]; omega
  · rw [if_neg q, if_neg (by omega), if_pos t]
  · rw [if_neg q, if_neg (by omega), if_neg t]

theorem ref_EditPlace_hC : Cons Try.prog [(f_ref_editPlace, ref_editPlace_ct)] := ⟨ref_editPlace_con, trivial⟩
theorem ref_EditPlace_con : Con Try.prog f_ref_EditPlace ref_EditPlace_ct := ref_EditPlace_vc ref_EditPlace_hC fun e at_ right h => by
  simp only [fitS, placed, movedPre, prod_eta] at *
  refine ⟨fun q => ?_, fun q => ?_⟩
  · rw [if_pos (by omega)]; exact ⟨rfl, rfl⟩
  · rw [if_neg (by omega)]; exact ⟨by omega, rfl, rfl⟩

theorem law_EditPlaces_hC : Cons Try.prog [(f_edit_Place, edit_Place_ct), (f_ref_EditPlace, ref_EditPlace_ct)] := ⟨edit_Place_con, ref_EditPlace_con, trivial⟩
theorem law_EditPlaces_con : Con Try.prog f_law_EditPlaces law_EditPlaces_ct := law_EditPlaces_vc law_EditPlaces_hC fun x at_ right h => ⟨h.1.2.2, h.1.2.2, by simp⟩

end Go.Proofs.Ytgnhlecfladigaa
