/- The facts of the given program that each frame of this seat needs, and the types of the laws' arguments: printed by a program of the claim's author. Conditions: none. -/
import Derived.Test.YtcgggoaefceokaaRows
import Derived.Test.YtcgggoaefceokaaVyM
import Derived.ProofKit
import Derived.OpenShut
import Derived.SizedLaws
import Derived.JoinedCond
set_option linter.unusedVariables false
set_option maxRecDepth 100000
namespace Go.Proofs.Ytcgggoaefceokaa
open Go.ChangeShapes Go.WideShapes Go.ChangeAt Go.RowKit Go.Vc
theorem own_knob : ownKnob Try.prog.godebug = none := by kernel_rfl
theorem laid_out : laidOutB Try.prog = true := by kernel_rfl
theorem bulk_law (H : Type) : Bulk (H := H) Rows.uptoBulk Rows.uptoBulkAll where
  int k n := by simp [Rows.uptoBulk]
  bool b := by simp [Rows.uptoBulk]
  str s := by simp [Rows.uptoBulk]
  nil := by simp [Rows.uptoBulk]
  slice es sp := by simp only [Rows.uptoBulk]; omega
  agg ps := by simp [Rows.uptoBulk]
  none := by simp [Rows.uptoBulkAll]
  cons d r := by simp [Rows.uptoBulkAll]
theorem par_ok {ts : List TypeId} (h : (ts.all fun t => Try.prog.readableRec t && decide (t < Try.prog.types.size)) = true) : ∀ t ∈ ts, Try.prog.readableRec t = true ∧ t < Try.prog.types.size := by
  simpa using h
abbrev editOvers_tys : Tys := (.cons (.int .i64) (.cons (.st (.cons (.int .i64) (.cons (.int .i64) (.cons .str .nil)))) (.cons (.st (.cons (.int .i64) (.cons (.int .i64) (.cons .str .nil)))) .nil)))
abbrev law_EditOvers_ct : Ct := lawCt editOvers_tys
abbrev schedPlays_tys : Tys := (.cons (.sl (.st (.cons (.int .i64) (.cons (.int .i64) .nil)))) .nil)
abbrev law_SchedPlays_ct : Ct := lawCt schedPlays_tys
abbrev wrapBests_tys : Tys := (.cons (.sl (.int .i64)) (.cons (.int .i64) .nil))
abbrev law_WrapBests_ct : Ct := lawCt wrapBests_tys
abbrev wrapChecks_tys : Tys := (.cons (.sl (.int .i64)) (.cons (.int .i64) .nil))
abbrev law_WrapChecks_ct : Ct := lawCt wrapChecks_tys
abbrev wrapGreedies_tys : Tys := (.cons (.sl (.int .i64)) (.cons (.int .i64) .nil))
abbrev law_WrapGreedies_ct : Ct := lawCt wrapGreedies_tys
abbrev posFinds_tys : Tys := (.cons .str (.cons (.int .i64) (.cons (.int .i64) .nil)))
abbrev law_PosFinds_ct : Ct := lawCt posFinds_tys
abbrev diffPatches_tys : Tys := (.cons (.sl .str) (.cons (.sl (.st (.cons (.int .i64) (.cons (.int .i64) .nil)))) (.cons (.sl .str) .nil)))
abbrev law_DiffPatches_ct : Ct := lawCt diffPatches_tys
abbrev editApplies_tys : Tys := (.cons .str (.cons (.sl (.st (.cons (.int .i64) (.cons (.int .i64) (.cons .str .nil))))) .nil))
abbrev law_EditApplies_ct : Ct := lawCt editApplies_tys
abbrev editInverts_tys : Tys := (.cons .str (.cons (.sl (.st (.cons (.int .i64) (.cons (.int .i64) (.cons .str .nil))))) .nil))
abbrev law_EditInverts_ct : Ct := lawCt editInverts_tys
abbrev linesLines_tys : Tys := (.cons (.sl (.int .i64)) (.cons (.int .i64) .nil))
abbrev law_LinesLines_ct : Ct := lawCt linesLines_tys
abbrev spansWidens_tys : Tys := (.cons .str (.cons (.st (.cons (.int .i64) (.cons (.int .i64) .nil))) .nil))
abbrev law_SpansWidens_ct : Ct := lawCt spansWidens_tys
abbrev findAlls_tys : Tys := (.cons .str (.cons .str .nil))
abbrev law_FindAlls_ct : Ct := lawCt findAlls_tys

end Go.Proofs.Ytcgggoaefceokaa
