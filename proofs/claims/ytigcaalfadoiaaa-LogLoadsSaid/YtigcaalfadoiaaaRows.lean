/-
  No cell of these rows narrows 'for every input' (looked for: loops, veiled, ifaces, maps, wideKeys, modest, calm, conditions, laid).
  DERIVED. THE GIVEN ROWS OF THIS SEAT. 12 by the template 'for every input the law returns true; each argument reads behind the call as it read before'; 0 by the template 'total and deterministic' (their statements: YtigcaalfadoiaaaTotals.lean).
  GIVEN WITH THE SEED: the statements are not yours to turn. If you find one false, say at which input.
  Laid BY PROGRAM, IN A SANDBOX (cutbox-rows.mjs): the forced cells as the released guide's own fill.sh prints them over the translation e7ae127fbdf1cb2b… (all of the seat's roots in one cut). By AI agents, Wed Nov 11 2026. No macro, syntax, notation, axiom, sorry.
-/
import Derived.Test.YtigcaalfadoiaaaChecked
import GoSem.Claim
import GoSem.ClaimJoined
import GoSem.ClaimMapViews
import Derived.JoinedTies
import Derived.KernelRfl
namespace Go.Proofs.Ytigcaalfadoiaaa
/- THE CELL 'sum', in the pinned program and in every row, IS THE sha256 OF THE DUMP (.gsa) THAT YtigcaalfadoiaaaProg.lean LOADS. Nothing in Lean hashes anything: it is a label: what it is worth is what the hold of that sum in a sandbox is worth. -/
noncomputable def Try.pinned : Pinned := { name := "ytigcaalfadoiaaa", sum := "e7ae127fbdf1cb2ba6d01dee241c2132f3ac07057669a1baa64857d57964e8e9", checked := Try.checked }
namespace Rows
def none {H : Type} : Left H := { results := [], args := [] }

/-- 'fustianlaw.DiffCosts': WHATEVER THE INPUT: true; the input reads as it did. -/
def diffCostsSpec : ChangeSpec := { name := "diffCosts", fn := fun _ => fun
  | [d1, d2] => { results := [.lit (.bool true)], args := [d1, d2] }
  | _ => none }
def diffCostsRow : OpenClaim := { program := "ytigcaalfadoiaaa", sum := "e7ae127fbdf1cb2ba6d01dee241c2132f3ac07057669a1baa64857d57964e8e9", func := "fustian/fustianlaw.DiffCosts", spec := "diffCosts", unfollowed := true, recurses := true, apart := false }
def DiffCostsSaid : Prop := diffCostsRow.holds Try.pinned (OpenSpec.ofChange diffCostsSpec)

/-- ITS FALSE NEIGHBOUR: 'it returns false'. Refute it at one input. -/
def diffCostsWrong : ChangeSpec := { name := "diffCosts", fn := fun _ => fun
  | [d1, d2] => { results := [.lit (.bool false)], args := [d1, d2] }
  | _ => none }
def DiffCostsWrongFalsely : Prop := diffCostsRow.holds Try.pinned (OpenSpec.ofChange diffCostsWrong)

/-- 'fustianlaw.FuzzyFars': WHATEVER THE INPUT: true; the input reads as it did. -/
def fuzzyFarsSpec : ChangeSpec := { name := "fuzzyFars", fn := fun _ => fun
  | [d1, d2] => { results := [.lit (.bool true)], args := [d1, d2] }
  | _ => none }
def fuzzyFarsRow : OpenClaim := { program := "ytigcaalfadoiaaa", sum := "e7ae127fbdf1cb2ba6d01dee241c2132f3ac07057669a1baa64857d57964e8e9", func := "fustian/fustianlaw.FuzzyFars", spec := "fuzzyFars", unfollowed := true, recurses := true, apart := false }
def FuzzyFarsSaid : Prop := fuzzyFarsRow.holds Try.pinned (OpenSpec.ofChange fuzzyFarsSpec)

/-- ITS FALSE NEIGHBOUR: 'it returns false'. Refute it at one input. -/
def fuzzyFarsWrong : ChangeSpec := { name := "fuzzyFars", fn := fun _ => fun
  | [d1, d2] => { results := [.lit (.bool false)], args := [d1, d2] }
  | _ => none }
def FuzzyFarsWrongFalsely : Prop := fuzzyFarsRow.holds Try.pinned (OpenSpec.ofChange fuzzyFarsWrong)

/-- 'fustianlaw.FuzzyNears': WHATEVER THE INPUT: true; the input reads as it did. -/
def fuzzyNearsSpec : ChangeSpec := { name := "fuzzyNears", fn := fun _ => fun
  | [d1, d2, d3] => { results := [.lit (.bool true)], args := [d1, d2, d3] }
  | _ => none }
def fuzzyNearsRow : OpenClaim := { program := "ytigcaalfadoiaaa", sum := "e7ae127fbdf1cb2ba6d01dee241c2132f3ac07057669a1baa64857d57964e8e9", func := "fustian/fustianlaw.FuzzyNears", spec := "fuzzyNears", unfollowed := true, recurses := true, apart := false }
def FuzzyNearsSaid : Prop := fuzzyNearsRow.holds Try.pinned (OpenSpec.ofChange fuzzyNearsSpec)

/-- ITS FALSE NEIGHBOUR: 'it returns false'. Refute it at one input. -/
def fuzzyNearsWrong : ChangeSpec := { name := "fuzzyNears", fn := fun _ => fun
  | [d1, d2, d3] => { results := [.lit (.bool false)], args := [d1, d2, d3] }
  | _ => none }
def FuzzyNearsWrongFalsely : Prop := fuzzyNearsRow.holds Try.pinned (OpenSpec.ofChange fuzzyNearsWrong)

/-- 'fustianlaw.DiffSteps': WHATEVER THE INPUT: true; the input reads as it did. -/
def diffStepsSpec : ChangeSpec := { name := "diffSteps", fn := fun _ => fun
  | [d1, d2] => { results := [.lit (.bool true)], args := [d1, d2] }
  | _ => none }
def diffStepsRow : OpenClaim := { program := "ytigcaalfadoiaaa", sum := "e7ae127fbdf1cb2ba6d01dee241c2132f3ac07057669a1baa64857d57964e8e9", func := "fustian/fustianlaw.DiffSteps", spec := "diffSteps", unfollowed := true, recurses := true, apart := false }
def DiffStepsSaid : Prop := diffStepsRow.holds Try.pinned (OpenSpec.ofChange diffStepsSpec)

/-- ITS FALSE NEIGHBOUR: 'it returns false'. Refute it at one input. -/
def diffStepsWrong : ChangeSpec := { name := "diffSteps", fn := fun _ => fun
  | [d1, d2] => { results := [.lit (.bool false)], args := [d1, d2] }
  | _ => none }
def DiffStepsWrongFalsely : Prop := diffStepsRow.holds Try.pinned (OpenSpec.ofChange diffStepsWrong)

/-- 'fustianlaw.HistPlays': WHATEVER THE INPUT: true; the input reads as it did. -/
def histPlaysSpec : ChangeSpec := { name := "histPlays", fn := fun _ => fun
  | [d1, d2] => { results := [.lit (.bool true)], args := [d1, d2] }
  | _ => none }
def histPlaysRow : OpenClaim := { program := "ytigcaalfadoiaaa", sum := "e7ae127fbdf1cb2ba6d01dee241c2132f3ac07057669a1baa64857d57964e8e9", func := "fustian/fustianlaw.HistPlays", spec := "histPlays", apart := false }
def HistPlaysSaid : Prop := histPlaysRow.holds Try.pinned (OpenSpec.ofChange histPlaysSpec)

/-- ITS FALSE NEIGHBOUR: 'it returns false'. Refute it at one input. -/
def histPlaysWrong : ChangeSpec := { name := "histPlays", fn := fun _ => fun
  | [d1, d2] => { results := [.lit (.bool false)], args := [d1, d2] }
  | _ => none }
def HistPlaysWrongFalsely : Prop := histPlaysRow.holds Try.pinned (OpenSpec.ofChange histPlaysWrong)

/-- 'fustianlaw.HistCounts': WHATEVER THE INPUT: true; the input reads as it did. -/
def histCountsSpec : ChangeSpec := { name := "histCounts", fn := fun _ => fun
  | [d1, d2] => { results := [.lit (.bool true)], args := [d1, d2] }
  | _ => none }
def histCountsRow : OpenClaim := { program := "ytigcaalfadoiaaa", sum := "e7ae127fbdf1cb2ba6d01dee241c2132f3ac07057669a1baa64857d57964e8e9", func := "fustian/fustianlaw.HistCounts", spec := "histCounts", apart := false }
def HistCountsSaid : Prop := histCountsRow.holds Try.pinned (OpenSpec.ofChange histCountsSpec)

/-- ITS FALSE NEIGHBOUR: 'it returns false'. Refute it at one input. -/
def histCountsWrong : ChangeSpec := { name := "histCounts", fn := fun _ => fun
  | [d1, d2] => { results := [.lit (.bool false)], args := [d1, d2] }
  | _ => none }
def HistCountsWrongFalsely : Prop := histCountsRow.holds Try.pinned (OpenSpec.ofChange histCountsWrong)

/-- 'fustianlaw.MergeMerges': WHATEVER THE INPUT: true; the input reads as it did. -/
def mergeMergesSpec : ChangeSpec := { name := "mergeMerges", fn := fun _ => fun
  | [d1, d2, d3] => { results := [.lit (.bool true)], args := [d1, d2, d3] }
  | _ => none }
def mergeMergesRow : OpenClaim := { program := "ytigcaalfadoiaaa", sum := "e7ae127fbdf1cb2ba6d01dee241c2132f3ac07057669a1baa64857d57964e8e9", func := "fustian/fustianlaw.MergeMerges", spec := "mergeMerges", unfollowed := true, recurses := true, apart := false }
def MergeMergesSaid : Prop := mergeMergesRow.holds Try.pinned (OpenSpec.ofChange mergeMergesSpec)

/-- ITS FALSE NEIGHBOUR: 'it returns false'. Refute it at one input. -/
def mergeMergesWrong : ChangeSpec := { name := "mergeMerges", fn := fun _ => fun
  | [d1, d2, d3] => { results := [.lit (.bool false)], args := [d1, d2, d3] }
  | _ => none }
def MergeMergesWrongFalsely : Prop := mergeMergesRow.holds Try.pinned (OpenSpec.ofChange mergeMergesWrong)

/-- 'fustiantop.TopMerge': WHATEVER THE INPUT: true; the input reads as it did. -/
def topMergeSpec : ChangeSpec := { name := "topMerge", fn := fun _ => fun
  | [d1, d2, d3] => { results := [.lit (.bool true)], args := [d1, d2, d3] }
  | _ => none }
def topMergeRow : OpenClaim := { program := "ytigcaalfadoiaaa", sum := "e7ae127fbdf1cb2ba6d01dee241c2132f3ac07057669a1baa64857d57964e8e9", func := "fustian/fustiantop.TopMerge", spec := "topMerge", unfollowed := true, recurses := true, apart := false }
def TopMergeSaid : Prop := topMergeRow.holds Try.pinned (OpenSpec.ofChange topMergeSpec)

/-- ITS FALSE NEIGHBOUR: 'it returns false'. Refute it at one input. -/
def topMergeWrong : ChangeSpec := { name := "topMerge", fn := fun _ => fun
  | [d1, d2, d3] => { results := [.lit (.bool false)], args := [d1, d2, d3] }
  | _ => none }
def TopMergeWrongFalsely : Prop := topMergeRow.holds Try.pinned (OpenSpec.ofChange topMergeWrong)

/-- 'fustianlaw.LogSaves': WHATEVER THE INPUT: true; the input reads as it did. -/
def logSavesSpec : ChangeSpec := { name := "logSaves", fn := fun _ => fun
  | [d1, d2] => { results := [.lit (.bool true)], args := [d1, d2] }
  | _ => none }
def logSavesRow : OpenClaim := { program := "ytigcaalfadoiaaa", sum := "e7ae127fbdf1cb2ba6d01dee241c2132f3ac07057669a1baa64857d57964e8e9", func := "fustian/fustianlaw.LogSaves", spec := "logSaves", apart := false }
def LogSavesSaid : Prop := logSavesRow.holds Try.pinned (OpenSpec.ofChange logSavesSpec)

/-- ITS FALSE NEIGHBOUR: 'it returns false'. Refute it at one input. -/
def logSavesWrong : ChangeSpec := { name := "logSaves", fn := fun _ => fun
  | [d1, d2] => { results := [.lit (.bool false)], args := [d1, d2] }
  | _ => none }
def LogSavesWrongFalsely : Prop := logSavesRow.holds Try.pinned (OpenSpec.ofChange logSavesWrong)

/-- 'fustianlaw.LogLoads': WHATEVER THE INPUT: true; the input reads as it did. -/
def logLoadsSpec : ChangeSpec := { name := "logLoads", fn := fun _ => fun
  | [d] => { results := [.lit (.bool true)], args := [d] }
  | _ => none }
def logLoadsRow : OpenClaim := { program := "ytigcaalfadoiaaa", sum := "e7ae127fbdf1cb2ba6d01dee241c2132f3ac07057669a1baa64857d57964e8e9", func := "fustian/fustianlaw.LogLoads", spec := "logLoads", unfollowed := true, recurses := true, apart := false }
def LogLoadsSaid : Prop := logLoadsRow.holds Try.pinned (OpenSpec.ofChange logLoadsSpec)

/-- ITS FALSE NEIGHBOUR: 'it returns false'. Refute it at one input. -/
def logLoadsWrong : ChangeSpec := { name := "logLoads", fn := fun _ => fun
  | [d] => { results := [.lit (.bool false)], args := [d] }
  | _ => none }
def LogLoadsWrongFalsely : Prop := logLoadsRow.holds Try.pinned (OpenSpec.ofChange logLoadsWrong)

/-- 'fustianlaw.WordsFinds': WHATEVER THE INPUT: true; the input reads as it did. -/
def wordsFindsSpec : ChangeSpec := { name := "wordsFinds", fn := fun _ => fun
  | [d1, d2] => { results := [.lit (.bool true)], args := [d1, d2] }
  | _ => none }
def wordsFindsRow : OpenClaim := { program := "ytigcaalfadoiaaa", sum := "e7ae127fbdf1cb2ba6d01dee241c2132f3ac07057669a1baa64857d57964e8e9", func := "fustian/fustianlaw.WordsFinds", spec := "wordsFinds", unfollowed := true, recurses := true, apart := false }
def WordsFindsSaid : Prop := wordsFindsRow.holds Try.pinned (OpenSpec.ofChange wordsFindsSpec)

/-- ITS FALSE NEIGHBOUR: 'it returns false'. Refute it at one input. -/
def wordsFindsWrong : ChangeSpec := { name := "wordsFinds", fn := fun _ => fun
  | [d1, d2] => { results := [.lit (.bool false)], args := [d1, d2] }
  | _ => none }
def WordsFindsWrongFalsely : Prop := wordsFindsRow.holds Try.pinned (OpenSpec.ofChange wordsFindsWrong)

/-- 'fustianlaw.MarksOrders': WHATEVER THE INPUT: true; the input reads as it did. -/
def marksOrdersSpec : ChangeSpec := { name := "marksOrders", fn := fun _ => fun
  | [d] => { results := [.lit (.bool true)], args := [d] }
  | _ => none }
def marksOrdersRow : OpenClaim := { program := "ytigcaalfadoiaaa", sum := "e7ae127fbdf1cb2ba6d01dee241c2132f3ac07057669a1baa64857d57964e8e9", func := "fustian/fustianlaw.MarksOrders", spec := "marksOrders", unfollowed := true, recurses := true, apart := false }
def MarksOrdersSaid : Prop := marksOrdersRow.holds Try.pinned (OpenSpec.ofChange marksOrdersSpec)

/-- ITS FALSE NEIGHBOUR: 'it returns false'. Refute it at one input. -/
def marksOrdersWrong : ChangeSpec := { name := "marksOrders", fn := fun _ => fun
  | [d] => { results := [.lit (.bool false)], args := [d] }
  | _ => none }
def MarksOrdersWrongFalsely : Prop := marksOrdersRow.holds Try.pinned (OpenSpec.ofChange marksOrdersWrong)

/- THE SECOND FORM. 'bulk': how many values and letters a reading holds, each counted each time it is reached (what is shared counts as often as it is met; a slice's spare places count too). A statement '..UptoSaid' is the law's where the arguments, and the package variables that the reading takes, are together of bulk at most 1048576: NARROWER than '..Said'. Prove '..Said' where nothing that the law and all that it calls make is longer than what came in: it says more and counts as full. Else prove '..UptoSaid'. A law counts once. -/
mutual
def uptoBulk {H : Type} : DataW H → Nat
  | .lit (.string bytes) => bytes.length + 1
  | .lit _ => 1
  | .nil => 1
  | .ptr d => uptoBulk d + 1
  | .slice elems spare => uptoBulkAll elems + uptoBulkAll spare + 1
  | .agg parts => uptoBulkAll parts + 1
  | .iface _ d => uptoBulk d + 1
  | .map entries => uptoBulkEntries entries + 1
  | .held _ => 1
def uptoBulkAll {H : Type} : List (DataW H) → Nat
  | [] => 0
  | d :: r => uptoBulk d + uptoBulkAll r
def uptoBulkEntries {H : Type} : List (Lit × DataW H) → Nat
  | [] => 0
  | x :: r => uptoBulkEntry x + uptoBulkEntries r
def uptoBulkEntry {H : Type} : Lit × DataW H → Nat
  | (.string bytes, d) => bytes.length + uptoBulk d + 1
  | (_, d) => uptoBulk d + 1
 end
def uptoSmall : (H : Type) → List (DataW H) → Bool := fun _ ds => decide (uptoBulkAll ds ≤ 1048576)
def OpenSpec.upto (s : _root_.Go.ChangeSpec) : _root_.Go.OpenSpec := { _root_.Go.OpenSpec.ofChange s with cond := some uptoSmall }

/-- 'fustianlaw.DiffCosts', WHERE WHAT IT READS IS OF BULK AT MOST 1048576: true; the input reads as it did. -/
def diffCostsUptoRow : OpenClaim := { program := "ytigcaalfadoiaaa", sum := "e7ae127fbdf1cb2ba6d01dee241c2132f3ac07057669a1baa64857d57964e8e9", func := "fustian/fustianlaw.DiffCosts", spec := "diffCosts", unfollowed := true, recurses := true, apart := false, narrowed := true }
def DiffCostsUptoSaid : Prop := diffCostsUptoRow.holds Try.pinned (OpenSpec.upto diffCostsSpec)

/-- 'fustianlaw.FuzzyFars', WHERE WHAT IT READS IS OF BULK AT MOST 1048576: true; the input reads as it did. -/
def fuzzyFarsUptoRow : OpenClaim := { program := "ytigcaalfadoiaaa", sum := "e7ae127fbdf1cb2ba6d01dee241c2132f3ac07057669a1baa64857d57964e8e9", func := "fustian/fustianlaw.FuzzyFars", spec := "fuzzyFars", unfollowed := true, recurses := true, apart := false, narrowed := true }
def FuzzyFarsUptoSaid : Prop := fuzzyFarsUptoRow.holds Try.pinned (OpenSpec.upto fuzzyFarsSpec)

/-- 'fustianlaw.FuzzyNears', WHERE WHAT IT READS IS OF BULK AT MOST 1048576: true; the input reads as it did. -/
def fuzzyNearsUptoRow : OpenClaim := { program := "ytigcaalfadoiaaa", sum := "e7ae127fbdf1cb2ba6d01dee241c2132f3ac07057669a1baa64857d57964e8e9", func := "fustian/fustianlaw.FuzzyNears", spec := "fuzzyNears", unfollowed := true, recurses := true, apart := false, narrowed := true }
def FuzzyNearsUptoSaid : Prop := fuzzyNearsUptoRow.holds Try.pinned (OpenSpec.upto fuzzyNearsSpec)

/-- 'fustianlaw.DiffSteps', WHERE WHAT IT READS IS OF BULK AT MOST 1048576: true; the input reads as it did. -/
def diffStepsUptoRow : OpenClaim := { program := "ytigcaalfadoiaaa", sum := "e7ae127fbdf1cb2ba6d01dee241c2132f3ac07057669a1baa64857d57964e8e9", func := "fustian/fustianlaw.DiffSteps", spec := "diffSteps", unfollowed := true, recurses := true, apart := false, narrowed := true }
def DiffStepsUptoSaid : Prop := diffStepsUptoRow.holds Try.pinned (OpenSpec.upto diffStepsSpec)

/-- 'fustianlaw.HistPlays', WHERE WHAT IT READS IS OF BULK AT MOST 1048576: true; the input reads as it did. -/
def histPlaysUptoRow : OpenClaim := { program := "ytigcaalfadoiaaa", sum := "e7ae127fbdf1cb2ba6d01dee241c2132f3ac07057669a1baa64857d57964e8e9", func := "fustian/fustianlaw.HistPlays", spec := "histPlays", apart := false, narrowed := true }
def HistPlaysUptoSaid : Prop := histPlaysUptoRow.holds Try.pinned (OpenSpec.upto histPlaysSpec)

/-- 'fustianlaw.HistCounts', WHERE WHAT IT READS IS OF BULK AT MOST 1048576: true; the input reads as it did. -/
def histCountsUptoRow : OpenClaim := { program := "ytigcaalfadoiaaa", sum := "e7ae127fbdf1cb2ba6d01dee241c2132f3ac07057669a1baa64857d57964e8e9", func := "fustian/fustianlaw.HistCounts", spec := "histCounts", apart := false, narrowed := true }
def HistCountsUptoSaid : Prop := histCountsUptoRow.holds Try.pinned (OpenSpec.upto histCountsSpec)

/-- 'fustianlaw.MergeMerges', WHERE WHAT IT READS IS OF BULK AT MOST 1048576: true; the input reads as it did. -/
def mergeMergesUptoRow : OpenClaim := { program := "ytigcaalfadoiaaa", sum := "e7ae127fbdf1cb2ba6d01dee241c2132f3ac07057669a1baa64857d57964e8e9", func := "fustian/fustianlaw.MergeMerges", spec := "mergeMerges", unfollowed := true, recurses := true, apart := false, narrowed := true }
def MergeMergesUptoSaid : Prop := mergeMergesUptoRow.holds Try.pinned (OpenSpec.upto mergeMergesSpec)

/-- 'fustiantop.TopMerge', WHERE WHAT IT READS IS OF BULK AT MOST 1048576: true; the input reads as it did. -/
def topMergeUptoRow : OpenClaim := { program := "ytigcaalfadoiaaa", sum := "e7ae127fbdf1cb2ba6d01dee241c2132f3ac07057669a1baa64857d57964e8e9", func := "fustian/fustiantop.TopMerge", spec := "topMerge", unfollowed := true, recurses := true, apart := false, narrowed := true }
def TopMergeUptoSaid : Prop := topMergeUptoRow.holds Try.pinned (OpenSpec.upto topMergeSpec)

/-- 'fustianlaw.LogSaves', WHERE WHAT IT READS IS OF BULK AT MOST 1048576: true; the input reads as it did. -/
def logSavesUptoRow : OpenClaim := { program := "ytigcaalfadoiaaa", sum := "e7ae127fbdf1cb2ba6d01dee241c2132f3ac07057669a1baa64857d57964e8e9", func := "fustian/fustianlaw.LogSaves", spec := "logSaves", apart := false, narrowed := true }
def LogSavesUptoSaid : Prop := logSavesUptoRow.holds Try.pinned (OpenSpec.upto logSavesSpec)

/-- 'fustianlaw.LogLoads', WHERE WHAT IT READS IS OF BULK AT MOST 1048576: true; the input reads as it did. -/
def logLoadsUptoRow : OpenClaim := { program := "ytigcaalfadoiaaa", sum := "e7ae127fbdf1cb2ba6d01dee241c2132f3ac07057669a1baa64857d57964e8e9", func := "fustian/fustianlaw.LogLoads", spec := "logLoads", unfollowed := true, recurses := true, apart := false, narrowed := true }
def LogLoadsUptoSaid : Prop := logLoadsUptoRow.holds Try.pinned (OpenSpec.upto logLoadsSpec)

/-- 'fustianlaw.WordsFinds', WHERE WHAT IT READS IS OF BULK AT MOST 1048576: true; the input reads as it did. -/
def wordsFindsUptoRow : OpenClaim := { program := "ytigcaalfadoiaaa", sum := "e7ae127fbdf1cb2ba6d01dee241c2132f3ac07057669a1baa64857d57964e8e9", func := "fustian/fustianlaw.WordsFinds", spec := "wordsFinds", unfollowed := true, recurses := true, apart := false, narrowed := true }
def WordsFindsUptoSaid : Prop := wordsFindsUptoRow.holds Try.pinned (OpenSpec.upto wordsFindsSpec)

/-- 'fustianlaw.MarksOrders', WHERE WHAT IT READS IS OF BULK AT MOST 1048576: true; the input reads as it did. -/
def marksOrdersUptoRow : OpenClaim := { program := "ytigcaalfadoiaaa", sum := "e7ae127fbdf1cb2ba6d01dee241c2132f3ac07057669a1baa64857d57964e8e9", func := "fustian/fustianlaw.MarksOrders", spec := "marksOrders", unfollowed := true, recurses := true, apart := false, narrowed := true }
def MarksOrdersUptoSaid : Prop := marksOrdersUptoRow.holds Try.pinned (OpenSpec.upto marksOrdersSpec)

end Rows
end Go.Proofs.Ytigcaalfadoiaaa
