/- The facts of the given program that each frame of this seat needs, and the types of the laws' arguments: printed by a program of the claim's author. Conditions: none. -/
import Derived.Test.YtgnhlecfladigaaRows
import Derived.Test.YtgnhlecfladigaaVyM
import Derived.ProofKit
import Derived.OpenShut
import Derived.SizedLaws
import Derived.JoinedCond
set_option linter.unusedVariables false
set_option maxRecDepth 100000
namespace Go.Proofs.Ytgnhlecfladigaa
open Go.ChangeShapes Go.WideShapes Go.ChangeAt Go.RowKit Go.Vc
theorem own_knob : ownKnob Try.prog.godebug = none := by kernel_rfl
theorem laid_out : laidOutB Try.prog = true := by kernel_rfl
theorem bulk_law (H : Type) : Bulk (H := H) Rows.uptoBulk Rows.uptoBulkAll where
  int k n := by simp [Rows.uptoBulk]
  bool b := by simp [Rows.uptoBulk]
  str s := by simp [Rows.uptoBulk]
  nil := by simp [Rows.uptoBulk]
  slice es sp := by simp only [Rows.uptoBulk]; omega
  agg ps := by simp [Rows.uptoBulk]
  none := by simp [Rows.uptoBulkAll]
  cons d r := by simp [Rows.uptoBulkAll]
theorem par_ok {ts : List TypeId} (h : (ts.all fun t => Try.prog.readableRec t && decide (t < Try.prog.types.size)) = true) : ∀ t ∈ ts, Try.prog.readableRec t = true ∧ t < Try.prog.types.size := by
  simpa using h
abbrev names_tys : Tys := .nil
abbrev law_Names_ct : Ct := lawCt names_tys
abbrev polyMays_tys : Tys := (.cons (.st (.cons (.int .i64) (.cons (.int .i64) .nil))) .nil)
abbrev law_PolyMays_ct : Ct := lawCt polyMays_tys
abbrev posMays_tys : Tys := (.cons (.st (.cons (.int .i64) (.cons (.int .i64) (.cons (.int .i64) .nil)))) .nil)
abbrev law_PosMays_ct : Ct := lawCt posMays_tys
abbrev polyOfs_tys : Tys := (.cons .str .nil)
abbrev law_PolyOfs_ct : Ct := lawCt polyOfs_tys
abbrev polyJoins_tys : Tys := (.cons (.st (.cons (.int .i64) (.cons (.int .i64) .nil))) (.cons (.st (.cons (.int .i64) (.cons (.int .i64) .nil))) .nil))
abbrev law_PolyJoins_ct : Ct := lawCt polyJoins_tys
abbrev editChecks_tys : Tys := (.cons (.int .i64) (.cons (.st (.cons (.int .i64) (.cons (.int .i64) (.cons .str .nil)))) .nil))
abbrev law_EditChecks_ct : Ct := lawCt editChecks_tys
abbrev spansMays_tys : Tys := (.cons (.int .i64) (.cons (.sl (.st (.cons (.int .i64) (.cons (.int .i64) .nil)))) .nil))
abbrev law_SpansMays_ct : Ct := lawCt spansMays_tys
abbrev linesStarts_tys : Tys := (.cons .str .nil)
abbrev law_LinesStarts_ct : Ct := lawCt linesStarts_tys
abbrev marksNears_tys : Tys := (.cons (.sl (.st (.cons (.int .i64) (.cons .bool .nil)))) (.cons (.int .i64) (.cons .bool .nil)))
abbrev law_MarksNears_ct : Ct := lawCt marksNears_tys
abbrev posJoins_tys : Tys := (.cons (.st (.cons (.int .i64) (.cons (.int .i64) (.cons (.int .i64) .nil)))) (.cons (.st (.cons (.int .i64) (.cons (.int .i64) (.cons (.int .i64) .nil)))) .nil))
abbrev law_PosJoins_ct : Ct := lawCt posJoins_tys
abbrev editPlaces_tys : Tys := (.cons (.st (.cons (.int .i64) (.cons (.int .i64) (.cons .str .nil)))) (.cons (.int .i64) (.cons .bool .nil)))
abbrev law_EditPlaces_ct : Ct := lawCt editPlaces_tys
abbrev findBorders_tys : Tys := (.cons .str .nil)
abbrev law_FindBorders_ct : Ct := lawCt findBorders_tys

end Go.Proofs.Ytgnhlecfladigaa
