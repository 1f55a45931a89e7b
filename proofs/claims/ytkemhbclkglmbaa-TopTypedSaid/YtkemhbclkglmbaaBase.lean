/- The facts of the given program that each frame of this seat needs, and the types of the laws' arguments: printed by a program of the claim's author. Conditions: none. -/
import Derived.Test.YtkemhbclkglmbaaRows
import Derived.Test.YtkemhbclkglmbaaVyM
import Derived.ProofKit
import Derived.OpenShut
import Derived.SizedLaws
import Derived.JoinedCond
set_option linter.unusedVariables false
set_option maxRecDepth 100000
namespace Go.Proofs.Ytkemhbclkglmbaa
open Go.ChangeShapes Go.WideShapes Go.ChangeAt Go.RowKit Go.Vc
theorem own_knob : ownKnob Try.prog.godebug = none := by kernel_rfl
theorem laid_out : laidOutB Try.prog = true := by kernel_rfl
theorem bulk_law (H : Type) : Bulk (H := H) Rows.uptoBulk Rows.uptoBulkAll where
  int k n := by simp [Rows.uptoBulk]
  bool b := by simp [Rows.uptoBulk]
  str s := by simp [Rows.uptoBulk]
  nil := by simp [Rows.uptoBulk]
  slice es sp := by simp only [Rows.uptoBulk]; omega
  agg ps := by simp [Rows.uptoBulk]
  none := by simp [Rows.uptoBulkAll]
  cons d r := by simp [Rows.uptoBulkAll]
theorem par_ok {ts : List TypeId} (h : (ts.all fun t => Try.prog.readableRec t && decide (t < Try.prog.types.size)) = true) : ∀ t ∈ ts, Try.prog.readableRec t = true ∧ t < Try.prog.types.size := by
  simpa using h
abbrev cursorsNorms_tys : Tys := (.cons (.int .i64) (.cons (.sl (.st (.cons (.int .i64) (.cons (.int .i64) .nil)))) .nil))
abbrev law_CursorsNorms_ct : Ct := lawCt cursorsNorms_tys
abbrev cursorsTypes_tys : Tys := (.cons .str (.cons (.sl (.st (.cons (.int .i64) (.cons (.int .i64) .nil)))) (.cons .str .nil)))
abbrev law_CursorsTypes_ct : Ct := lawCt cursorsTypes_tys
abbrev cursorsFollows_tys : Tys := (.cons (.int .i64) (.cons (.sl (.st (.cons (.int .i64) (.cons (.int .i64) .nil)))) (.cons (.st (.cons (.int .i64) (.cons (.int .i64) (.cons .str .nil)))) .nil)))
abbrev law_CursorsFollows_ct : Ct := lawCt cursorsFollows_tys
abbrev topTyped_tys : Tys := (.cons (.sl (.int .i64)) (.cons (.sl (.int .i64)) (.cons (.sl (.int .i64)) .nil)))
abbrev law_TopTyped_ct : Ct := lawCt topTyped_tys
abbrev fuzzyGuesses_tys : Tys := (.cons (.sl .str) (.cons .str (.cons (.int .i64) .nil)))
abbrev law_FuzzyGuesses_ct : Ct := lawCt fuzzyGuesses_tys
abbrev suffixAgains_tys : Tys := (.cons .str .nil)
abbrev law_SuffixAgains_ct : Ct := lawCt suffixAgains_tys
abbrev suffixFinds_tys : Tys := (.cons .str (.cons .str .nil))
abbrev law_SuffixFinds_ct : Ct := lawCt suffixFinds_tys
abbrev suffixSorts_tys : Tys := (.cons .str .nil)
abbrev law_SuffixSorts_ct : Ct := lawCt suffixSorts_tys
abbrev suffixCommons_tys : Tys := (.cons .str .nil)
abbrev law_SuffixCommons_ct : Ct := lawCt suffixCommons_tys
abbrev suffixUnlikes_tys : Tys := (.cons .str .nil)
abbrev law_SuffixUnlikes_ct : Ct := lawCt suffixUnlikes_tys
abbrev ropeDepths_tys : Tys := (.cons (.sl (.st (.cons (.int .i64) (.cons .str (.cons (.int .i64) (.cons (.int .i64) (.cons (.int .i64) (.cons (.int .i64) .nil)))))))) .nil)
abbrev law_RopeDepths_ct : Ct := lawCt ropeDepths_tys
abbrev ropeMeasures_tys : Tys := (.cons (.sl (.st (.cons (.int .i64) (.cons .str (.cons (.int .i64) (.cons (.int .i64) (.cons (.int .i64) (.cons (.int .i64) .nil)))))))) .nil)
abbrev law_RopeMeasures_ct : Ct := lawCt ropeMeasures_tys

end Go.Proofs.Ytkemhbclkglmbaa
