/- The contracts of the functions that the law reaches, and that of the law. Conditions: none. -/
import Derived.Test.YtgnhlecfladigaaWEditChecks
set_option linter.unusedVariables false
set_option linter.unusedSimpArgs false
set_option maxRecDepth 100000
namespace Go.Proofs.Ytgnhlecfladigaa
open Go.Vc Go.Fu

theorem edit_Check_hC : Cons Try.prog [] := trivial
theorem edit_Check_con : Con Try.prog f_edit_Check edit_Check_ct := edit_Check_vc edit_Check_hC fun size e ⟨h1, h2, h3, h4⟩ => (by
  simp only [inI_iff, fitS, editFault] at *
  refine ⟨fun h => by omega, fun h => ?_, fun h => ⟨by omega, by omega, fun g => ?_, fun g => ?_⟩⟩
  · rw [if_pos (by omega)]
  · rw [if_neg (by omega), if_pos (by omega)]
  · rw [if_neg (by omega), if_neg (by omega)])

theorem ref_EditFault_hC : Cons Try.prog [] := trivial
theorem ref_EditFault_con : Con Try.prog f_ref_EditFault ref_EditFault_ct := ref_EditFault_vc ref_EditFault_hC fun size e ⟨h1, h2, h3, h4⟩ => (by
  simp only [inI_iff, fitS, editFault] at *
  refine ⟨fun h => by omega, fun h => ?_, fun h => ⟨by omega, by omega, fun g => ?_, fun g => ?_⟩⟩
  · rw [if_pos (by omega)]
  · rw [if_neg (by omega), if_pos (by omega)]
  · rw [if_neg (by omega), if_neg (by omega)])

theorem law_EditChecks_hC : Cons Try.prog [(f_edit_Check, edit_Check_ct), (f_ref_EditFault, ref_EditFault_ct)] := ⟨edit_Check_con, ref_EditFault_con, trivial⟩
theorem law_EditChecks_con : Con Try.prog f_law_EditChecks law_EditChecks_ct := law_EditChecks_vc law_EditChecks_hC fun size e ⟨h1, h2, h3, h4⟩ => (by
  refine ⟨⟨h1, h2, h3, h4⟩, ⟨h1, h2, h3, h4⟩, by simp⟩)

end Go.Proofs.Ytgnhlecfladigaa
