/-
  Merging: contracts.
-/
import Derived.Test.YtdbgppfoenoijaaVpMK
set_option linter.unusedVariables false
set_option linter.unusedSimpArgs false
namespace Go.Fu
open Go.Vc
noncomputable section
/-- What merging answers, by hunks. -/
def merged (base a b : Lines) : Lines × Int × Int :=
  if linesFault [base, a, b] ≠ 0 then ([], 0, linesFault [base, a, b])
  else ((mergeF base ((hunksOf base a).length + (hunksOf base b).length + 1) 0 (hunksOf base a) (hunksOf base b)).1, ((mergeF base ((hunksOf base a).length + (hunksOf base b).length + 1) 0 (hunksOf base a) (hunksOf base b)).2 : Int), 0)
theorem merged_rule {base a b : Lines} (h : linesFault [base, a, b] = 0) : merged base a b = ((ruleF base base.length (touchOf base a) (touchOf base b) (base.length + 1) 0).1, ((ruleF base base.length (touchOf base a) (touchOf base b) (base.length + 1) 0).2 : Int), 0) := by
  unfold merged
  rw [if_neg (by simpa using h), merge_both]
def merge_Merge_ct : Ct := ⟨tys3 (.sl .str) (.sl .str) (.sl .str), [.own .str, .val tI, .val tI], fun x => lsPre [x.1, x.2.1, x.2.2], fun x => merged x.1 x.2.1 x.2.2⟩
def ref_Merged_ct : Ct := merge_Merge_ct
end
end Go.Fu
