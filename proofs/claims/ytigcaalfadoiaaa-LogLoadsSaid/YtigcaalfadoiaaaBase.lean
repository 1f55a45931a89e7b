/- The facts of the given program that each frame of this seat needs, and the types of the laws' arguments: printed by a program of the claim's author. Conditions: none. -/
import Derived.Test.YtigcaalfadoiaaaRows
import Derived.Test.YtigcaalfadoiaaaVyM
import Derived.ProofKit
import Derived.OpenShut
import Derived.SizedLaws
import Derived.JoinedCond
set_option linter.unusedVariables false
set_option maxRecDepth 100000
namespace Go.Proofs.Ytigcaalfadoiaaa
open Go.ChangeShapes Go.WideShapes Go.ChangeAt Go.RowKit Go.Vc
theorem own_knob : ownKnob Try.prog.godebug = none := by kernel_rfl
theorem laid_out : laidOutB Try.prog = true := by kernel_rfl
theorem bulk_law (H : Type) : Bulk (H := H) Rows.uptoBulk Rows.uptoBulkAll where
  int k n := by simp [Rows.uptoBulk]
  bool b := by simp [Rows.uptoBulk]
  str s := by simp [Rows.uptoBulk]
  nil := by simp [Rows.uptoBulk]
  slice es sp := by simp only [Rows.uptoBulk]; omega
  agg ps := by simp [Rows.uptoBulk]
  none := by simp [Rows.uptoBulkAll]
  cons d r := by simp [Rows.uptoBulkAll]
theorem par_ok {ts : List TypeId} (h : (ts.all fun t => Try.prog.readableRec t && decide (t < Try.prog.types.size)) = true) : ∀ t ∈ ts, Try.prog.readableRec t = true ∧ t < Try.prog.types.size := by
  simpa using h
abbrev diffCosts_tys : Tys := (.cons (.sl .str) (.cons (.sl .str) .nil))
abbrev law_DiffCosts_ct : Ct := lawCt diffCosts_tys
abbrev fuzzyFars_tys : Tys := (.cons .str (.cons .str .nil))
abbrev law_FuzzyFars_ct : Ct := lawCt fuzzyFars_tys
abbrev fuzzyNears_tys : Tys := (.cons .str (.cons .str (.cons (.int .i64) .nil)))
abbrev law_FuzzyNears_ct : Ct := lawCt fuzzyNears_tys
abbrev diffSteps_tys : Tys := (.cons (.sl .str) (.cons (.sl .str) .nil))
abbrev law_DiffSteps_ct : Ct := lawCt diffSteps_tys
abbrev histPlays_tys : Tys := (.cons .str (.cons (.sl (.st (.cons (.int .i64) (.cons (.st (.cons (.int .i64) (.cons (.int .i64) (.cons .str .nil)))) .nil)))) .nil))
abbrev law_HistPlays_ct : Ct := lawCt histPlays_tys
abbrev histCounts_tys : Tys := (.cons .str (.cons (.sl (.st (.cons (.int .i64) (.cons (.st (.cons (.int .i64) (.cons (.int .i64) (.cons .str .nil)))) .nil)))) .nil))
abbrev law_HistCounts_ct : Ct := lawCt histCounts_tys
abbrev mergeMerges_tys : Tys := (.cons (.sl .str) (.cons (.sl .str) (.cons (.sl .str) .nil)))
abbrev law_MergeMerges_ct : Ct := lawCt mergeMerges_tys
abbrev topMerge_tys : Tys := (.cons (.sl (.int .i64)) (.cons (.int .i64) (.cons (.sl (.int .i64)) .nil)))
abbrev law_TopMerge_ct : Ct := lawCt topMerge_tys
abbrev logSaves_tys : Tys := (.cons .str (.cons (.sl (.st (.cons (.int .i64) (.cons (.st (.cons (.int .i64) (.cons (.int .i64) (.cons .str .nil)))) .nil)))) .nil))
abbrev law_LogSaves_ct : Ct := lawCt logSaves_tys
abbrev logLoads_tys : Tys := (.cons (.sl (.int .u8)) .nil)
abbrev law_LogLoads_ct : Ct := lawCt logLoads_tys
abbrev wordsFinds_tys : Tys := (.cons .str (.cons .str .nil))
abbrev law_WordsFinds_ct : Ct := lawCt wordsFinds_tys
abbrev marksOrders_tys : Tys := (.cons (.sl (.st (.cons (.int .i64) (.cons .bool .nil)))) .nil)
abbrev law_MarksOrders_ct : Ct := lawCt marksOrders_tys

end Go.Proofs.Ytigcaalfadoiaaa
