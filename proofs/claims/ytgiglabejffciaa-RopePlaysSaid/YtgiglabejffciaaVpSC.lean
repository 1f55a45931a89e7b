/-
  Are two lists of codes the same?
-/
import Derived.Test.YtgiglabejffciaaVpB
set_option linter.unusedVariables false
namespace Go.Fu
open Go.Vc
noncomputable section
def law_sameCodes_ct : Ct := law_sameInts_ct
end
theorem gt_map {α β : Type} [Inhabited α] [Inhabited β] {f : α → β} {l : List α} {i : Int} (h0 : 0 ≤ i) (h1 : i < l.length) : gt (l.map f) i = f (gt l i) := by
  rw [gt_in h0 (by simp; omega), gt_in h0 h1]; simp
end Go.Fu
