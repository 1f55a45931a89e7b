/-
  No cell of these rows narrows 'for every input' (looked for: loops, veiled, ifaces, maps, wideKeys, modest, calm, conditions, laid).
  DERIVED. THE GIVEN ROWS OF THIS SEAT. 12 by the template 'for every input the law returns true; each argument reads behind the call as it read before'; 0 by the template 'total and deterministic' (their statements: YtkemhbclkglmbaaTotals.lean).
  GIVEN WITH THE SEED: the statements are not yours to turn. If you find one false, say at which input.
  Laid BY PROGRAM, IN A SANDBOX (cutbox-rows.mjs): the forced cells as the released guide's own fill.sh prints them over the translation ab35f9d8af078b1c… (all of the seat's roots in one cut). By AI agents, Wed Nov 11 2026. No macro, syntax, notation, axiom, sorry.
-/
import Derived.Test.YtkemhbclkglmbaaChecked
import GoSem.Claim
import GoSem.ClaimJoined
import GoSem.ClaimMapViews
import Derived.JoinedTies
import Derived.KernelRfl
namespace Go.Proofs.Ytkemhbclkglmbaa
/- THE CELL 'sum', in the pinned program and in every row, IS THE sha256 OF THE DUMP (.gsa) THAT YtkemhbclkglmbaaProg.lean LOADS. Nothing in Lean hashes anything: it is a label: what it is worth is what the hold of that sum in a sandbox is worth. -/
noncomputable def Try.pinned : Pinned := { name := "ytkemhbclkglmbaa", sum := "ab35f9d8af078b1ce94c5a26d3aa09d2c68a7b346e7b7850dd9db549211796a5", checked := Try.checked }
namespace Rows
def none {H : Type} : Left H := { results := [], args := [] }

/-- 'fustianlaw.CursorsNorms': WHATEVER THE INPUT: true; the input reads as it did. -/
def cursorsNormsSpec : ChangeSpec := { name := "cursorsNorms", fn := fun _ => fun
  | [d1, d2] => { results := [.lit (.bool true)], args := [d1, d2] }
  | _ => none }
def cursorsNormsRow : OpenClaim := { program := "ytkemhbclkglmbaa", sum := "ab35f9d8af078b1ce94c5a26d3aa09d2c68a7b346e7b7850dd9db549211796a5", func := "fustian/fustianlaw.CursorsNorms", spec := "cursorsNorms", inPlace := ["internal/reflectlite.ValueOf", "internal/reflectlite.Swapper", "(internal/reflectlite.Value).Len"], unfollowed := true, recurses := true, apart := false }
def CursorsNormsSaid : Prop := cursorsNormsRow.holds Try.pinned (OpenSpec.ofChange cursorsNormsSpec)

/-- ITS FALSE NEIGHBOUR: 'it returns false'. Refute it at one input. -/
def cursorsNormsWrong : ChangeSpec := { name := "cursorsNorms", fn := fun _ => fun
  | [d1, d2] => { results := [.lit (.bool false)], args := [d1, d2] }
  | _ => none }
def CursorsNormsWrongFalsely : Prop := cursorsNormsRow.holds Try.pinned (OpenSpec.ofChange cursorsNormsWrong)

/-- 'fustianlaw.CursorsTypes': WHATEVER THE INPUT: true; the input reads as it did. -/
def cursorsTypesSpec : ChangeSpec := { name := "cursorsTypes", fn := fun _ => fun
  | [d1, d2, d3] => { results := [.lit (.bool true)], args := [d1, d2, d3] }
  | _ => none }
def cursorsTypesRow : OpenClaim := { program := "ytkemhbclkglmbaa", sum := "ab35f9d8af078b1ce94c5a26d3aa09d2c68a7b346e7b7850dd9db549211796a5", func := "fustian/fustianlaw.CursorsTypes", spec := "cursorsTypes", inPlace := ["internal/reflectlite.ValueOf", "internal/reflectlite.Swapper", "(internal/reflectlite.Value).Len"], unfollowed := true, recurses := true, apart := false }
def CursorsTypesSaid : Prop := cursorsTypesRow.holds Try.pinned (OpenSpec.ofChange cursorsTypesSpec)

/-- ITS FALSE NEIGHBOUR: 'it returns false'. Refute it at one input. -/
def cursorsTypesWrong : ChangeSpec := { name := "cursorsTypes", fn := fun _ => fun
  | [d1, d2, d3] => { results := [.lit (.bool false)], args := [d1, d2, d3] }
  | _ => none }
def CursorsTypesWrongFalsely : Prop := cursorsTypesRow.holds Try.pinned (OpenSpec.ofChange cursorsTypesWrong)

/-- 'fustianlaw.CursorsFollows': WHATEVER THE INPUT: true; the input reads as it did. -/
def cursorsFollowsSpec : ChangeSpec := { name := "cursorsFollows", fn := fun _ => fun
  | [d1, d2, d3] => { results := [.lit (.bool true)], args := [d1, d2, d3] }
  | _ => none }
def cursorsFollowsRow : OpenClaim := { program := "ytkemhbclkglmbaa", sum := "ab35f9d8af078b1ce94c5a26d3aa09d2c68a7b346e7b7850dd9db549211796a5", func := "fustian/fustianlaw.CursorsFollows", spec := "cursorsFollows", inPlace := ["internal/reflectlite.ValueOf", "internal/reflectlite.Swapper", "(internal/reflectlite.Value).Len"], unfollowed := true, recurses := true, apart := false }
def CursorsFollowsSaid : Prop := cursorsFollowsRow.holds Try.pinned (OpenSpec.ofChange cursorsFollowsSpec)

/-- ITS FALSE NEIGHBOUR: 'it returns false'. Refute it at one input. -/
def cursorsFollowsWrong : ChangeSpec := { name := "cursorsFollows", fn := fun _ => fun
  | [d1, d2, d3] => { results := [.lit (.bool false)], args := [d1, d2, d3] }
  | _ => none }
def CursorsFollowsWrongFalsely : Prop := cursorsFollowsRow.holds Try.pinned (OpenSpec.ofChange cursorsFollowsWrong)

/-- 'fustiantop.TopTyped': WHATEVER THE INPUT: true; the input reads as it did. -/
def topTypedSpec : ChangeSpec := { name := "topTyped", fn := fun _ => fun
  | [d1, d2, d3] => { results := [.lit (.bool true)], args := [d1, d2, d3] }
  | _ => none }
def topTypedRow : OpenClaim := { program := "ytkemhbclkglmbaa", sum := "ab35f9d8af078b1ce94c5a26d3aa09d2c68a7b346e7b7850dd9db549211796a5", func := "fustian/fustiantop.TopTyped", spec := "topTyped", inPlace := ["internal/abi.NoEscape"], unfollowed := true, recurses := true, apart := false }
def TopTypedSaid : Prop := topTypedRow.holds Try.pinned (OpenSpec.ofChange topTypedSpec)

/-- ITS FALSE NEIGHBOUR: 'it returns false'. Refute it at one input. -/
def topTypedWrong : ChangeSpec := { name := "topTyped", fn := fun _ => fun
  | [d1, d2, d3] => { results := [.lit (.bool false)], args := [d1, d2, d3] }
  | _ => none }
def TopTypedWrongFalsely : Prop := topTypedRow.holds Try.pinned (OpenSpec.ofChange topTypedWrong)

/-- 'fustianlaw.FuzzyGuesses': WHATEVER THE INPUT: true; the input reads as it did. -/
def fuzzyGuessesSpec : ChangeSpec := { name := "fuzzyGuesses", fn := fun _ => fun
  | [d1, d2, d3] => { results := [.lit (.bool true)], args := [d1, d2, d3] }
  | _ => none }
def fuzzyGuessesRow : OpenClaim := { program := "ytkemhbclkglmbaa", sum := "ab35f9d8af078b1ce94c5a26d3aa09d2c68a7b346e7b7850dd9db549211796a5", func := "fustian/fustianlaw.FuzzyGuesses", spec := "fuzzyGuesses", inPlace := ["internal/reflectlite.ValueOf", "internal/reflectlite.Swapper", "(internal/reflectlite.Value).Len"], unfollowed := true, recurses := true, apart := false }
def FuzzyGuessesSaid : Prop := fuzzyGuessesRow.holds Try.pinned (OpenSpec.ofChange fuzzyGuessesSpec)

/-- ITS FALSE NEIGHBOUR: 'it returns false'. Refute it at one input. -/
def fuzzyGuessesWrong : ChangeSpec := { name := "fuzzyGuesses", fn := fun _ => fun
  | [d1, d2, d3] => { results := [.lit (.bool false)], args := [d1, d2, d3] }
  | _ => none }
def FuzzyGuessesWrongFalsely : Prop := fuzzyGuessesRow.holds Try.pinned (OpenSpec.ofChange fuzzyGuessesWrong)

/-- 'fustianlaw.SuffixAgains': WHATEVER THE INPUT: true; the input reads as it did. -/
def suffixAgainsSpec : ChangeSpec := { name := "suffixAgains", fn := fun _ => fun
  | [d] => { results := [.lit (.bool true)], args := [d] }
  | _ => none }
def suffixAgainsRow : OpenClaim := { program := "ytkemhbclkglmbaa", sum := "ab35f9d8af078b1ce94c5a26d3aa09d2c68a7b346e7b7850dd9db549211796a5", func := "fustian/fustianlaw.SuffixAgains", spec := "suffixAgains", unfollowed := true, recurses := true, apart := false }
def SuffixAgainsSaid : Prop := suffixAgainsRow.holds Try.pinned (OpenSpec.ofChange suffixAgainsSpec)

/-- ITS FALSE NEIGHBOUR: 'it returns false'. Refute it at one input. -/
def suffixAgainsWrong : ChangeSpec := { name := "suffixAgains", fn := fun _ => fun
  | [d] => { results := [.lit (.bool false)], args := [d] }
  | _ => none }
def SuffixAgainsWrongFalsely : Prop := suffixAgainsRow.holds Try.pinned (OpenSpec.ofChange suffixAgainsWrong)

/-- 'fustianlaw.SuffixFinds': WHATEVER THE INPUT: true; the input reads as it did. -/
def suffixFindsSpec : ChangeSpec := { name := "suffixFinds", fn := fun _ => fun
  | [d1, d2] => { results := [.lit (.bool true)], args := [d1, d2] }
  | _ => none }
def suffixFindsRow : OpenClaim := { program := "ytkemhbclkglmbaa", sum := "ab35f9d8af078b1ce94c5a26d3aa09d2c68a7b346e7b7850dd9db549211796a5", func := "fustian/fustianlaw.SuffixFinds", spec := "suffixFinds", unfollowed := true, recurses := true, apart := false }
def SuffixFindsSaid : Prop := suffixFindsRow.holds Try.pinned (OpenSpec.ofChange suffixFindsSpec)

/-- ITS FALSE NEIGHBOUR: 'it returns false'. Refute it at one input. -/
def suffixFindsWrong : ChangeSpec := { name := "suffixFinds", fn := fun _ => fun
  | [d1, d2] => { results := [.lit (.bool false)], args := [d1, d2] }
  | _ => none }
def SuffixFindsWrongFalsely : Prop := suffixFindsRow.holds Try.pinned (OpenSpec.ofChange suffixFindsWrong)

/-- 'fustianlaw.SuffixSorts': WHATEVER THE INPUT: true; the input reads as it did. -/
def suffixSortsSpec : ChangeSpec := { name := "suffixSorts", fn := fun _ => fun
  | [d] => { results := [.lit (.bool true)], args := [d] }
  | _ => none }
def suffixSortsRow : OpenClaim := { program := "ytkemhbclkglmbaa", sum := "ab35f9d8af078b1ce94c5a26d3aa09d2c68a7b346e7b7850dd9db549211796a5", func := "fustian/fustianlaw.SuffixSorts", spec := "suffixSorts", inPlace := ["internal/reflectlite.ValueOf", "internal/reflectlite.Swapper", "(internal/reflectlite.Value).Len"], unfollowed := true, recurses := true, apart := false }
def SuffixSortsSaid : Prop := suffixSortsRow.holds Try.pinned (OpenSpec.ofChange suffixSortsSpec)

/-- ITS FALSE NEIGHBOUR: 'it returns false'. Refute it at one input. -/
def suffixSortsWrong : ChangeSpec := { name := "suffixSorts", fn := fun _ => fun
  | [d] => { results := [.lit (.bool false)], args := [d] }
  | _ => none }
def SuffixSortsWrongFalsely : Prop := suffixSortsRow.holds Try.pinned (OpenSpec.ofChange suffixSortsWrong)

/-- 'fustianlaw.SuffixCommons': WHATEVER THE INPUT: true; the input reads as it did. -/
def suffixCommonsSpec : ChangeSpec := { name := "suffixCommons", fn := fun _ => fun
  | [d] => { results := [.lit (.bool true)], args := [d] }
  | _ => none }
def suffixCommonsRow : OpenClaim := { program := "ytkemhbclkglmbaa", sum := "ab35f9d8af078b1ce94c5a26d3aa09d2c68a7b346e7b7850dd9db549211796a5", func := "fustian/fustianlaw.SuffixCommons", spec := "suffixCommons", inPlace := ["internal/reflectlite.ValueOf", "internal/reflectlite.Swapper", "(internal/reflectlite.Value).Len"], unfollowed := true, recurses := true, apart := false }
def SuffixCommonsSaid : Prop := suffixCommonsRow.holds Try.pinned (OpenSpec.ofChange suffixCommonsSpec)

/-- ITS FALSE NEIGHBOUR: 'it returns false'. Refute it at one input. -/
def suffixCommonsWrong : ChangeSpec := { name := "suffixCommons", fn := fun _ => fun
  | [d] => { results := [.lit (.bool false)], args := [d] }
  | _ => none }
def SuffixCommonsWrongFalsely : Prop := suffixCommonsRow.holds Try.pinned (OpenSpec.ofChange suffixCommonsWrong)

/-- 'fustianlaw.SuffixUnlikes': WHATEVER THE INPUT: true; the input reads as it did. -/
def suffixUnlikesSpec : ChangeSpec := { name := "suffixUnlikes", fn := fun _ => fun
  | [d] => { results := [.lit (.bool true)], args := [d] }
  | _ => none }
def suffixUnlikesRow : OpenClaim := { program := "ytkemhbclkglmbaa", sum := "ab35f9d8af078b1ce94c5a26d3aa09d2c68a7b346e7b7850dd9db549211796a5", func := "fustian/fustianlaw.SuffixUnlikes", spec := "suffixUnlikes", inPlace := ["internal/reflectlite.ValueOf", "internal/reflectlite.Swapper", "(internal/reflectlite.Value).Len"], unfollowed := true, recurses := true, apart := false }
def SuffixUnlikesSaid : Prop := suffixUnlikesRow.holds Try.pinned (OpenSpec.ofChange suffixUnlikesSpec)

/-- ITS FALSE NEIGHBOUR: 'it returns false'. Refute it at one input. -/
def suffixUnlikesWrong : ChangeSpec := { name := "suffixUnlikes", fn := fun _ => fun
  | [d] => { results := [.lit (.bool false)], args := [d] }
  | _ => none }
def SuffixUnlikesWrongFalsely : Prop := suffixUnlikesRow.holds Try.pinned (OpenSpec.ofChange suffixUnlikesWrong)

/-- 'fustianlaw.RopeDepths': WHATEVER THE INPUT: true; the input reads as it did. -/
def ropeDepthsSpec : ChangeSpec := { name := "ropeDepths", fn := fun _ => fun
  | [d] => { results := [.lit (.bool true)], args := [d] }
  | _ => none }
def ropeDepthsRow : OpenClaim := { program := "ytkemhbclkglmbaa", sum := "ab35f9d8af078b1ce94c5a26d3aa09d2c68a7b346e7b7850dd9db549211796a5", func := "fustian/fustianlaw.RopeDepths", spec := "ropeDepths", inPlace := ["internal/bytealg.CountString", "internal/bytealg.IndexByteString", "internal/bytealg.IndexString"], unfollowed := true, recurses := true, named := ["internal/bytealg.MaxLen"], apart := false }
def RopeDepthsSaid : Prop := ropeDepthsRow.holds Try.pinned (OpenSpec.ofChange ropeDepthsSpec)

/-- ITS FALSE NEIGHBOUR: 'it returns false'. Refute it at one input. -/
def ropeDepthsWrong : ChangeSpec := { name := "ropeDepths", fn := fun _ => fun
  | [d] => { results := [.lit (.bool false)], args := [d] }
  | _ => none }
def RopeDepthsWrongFalsely : Prop := ropeDepthsRow.holds Try.pinned (OpenSpec.ofChange ropeDepthsWrong)

/-- 'fustianlaw.RopeMeasures': WHATEVER THE INPUT: true; the input reads as it did. -/
def ropeMeasuresSpec : ChangeSpec := { name := "ropeMeasures", fn := fun _ => fun
  | [d] => { results := [.lit (.bool true)], args := [d] }
  | _ => none }
def ropeMeasuresRow : OpenClaim := { program := "ytkemhbclkglmbaa", sum := "ab35f9d8af078b1ce94c5a26d3aa09d2c68a7b346e7b7850dd9db549211796a5", func := "fustian/fustianlaw.RopeMeasures", spec := "ropeMeasures", inPlace := ["internal/bytealg.CountString", "internal/bytealg.IndexByteString", "internal/bytealg.IndexString"], unfollowed := true, recurses := true, named := ["internal/bytealg.MaxLen"], apart := false }
def RopeMeasuresSaid : Prop := ropeMeasuresRow.holds Try.pinned (OpenSpec.ofChange ropeMeasuresSpec)

/-- ITS FALSE NEIGHBOUR: 'it returns false'. Refute it at one input. -/
def ropeMeasuresWrong : ChangeSpec := { name := "ropeMeasures", fn := fun _ => fun
  | [d] => { results := [.lit (.bool false)], args := [d] }
  | _ => none }
def RopeMeasuresWrongFalsely : Prop := ropeMeasuresRow.holds Try.pinned (OpenSpec.ofChange ropeMeasuresWrong)

/- THE SECOND FORM. 'bulk': how many values and letters a reading holds, each counted each time it is reached (what is shared counts as often as it is met; a slice's spare places count too). A statement '..UptoSaid' is the law's where the arguments, and the package variables that the reading takes, are together of bulk at most 1048576: NARROWER than '..Said'. Prove '..Said' where nothing that the law and all that it calls make is longer than what came in: it says more and counts as full. Else prove '..UptoSaid'. A law counts once. -/
mutual
def uptoBulk {H : Type} : DataW H → Nat
  | .lit (.string bytes) => bytes.length + 1
  | .lit _ => 1
  | .nil => 1
  | .ptr d => uptoBulk d + 1
  | .slice elems spare => uptoBulkAll elems + uptoBulkAll spare + 1
  | .agg parts => uptoBulkAll parts + 1
  | .iface _ d => uptoBulk d + 1
  | .map entries => uptoBulkEntries entries + 1
  | .held _ => 1
def uptoBulkAll {H : Type} : List (DataW H) → Nat
  | [] => 0
  | d :: r => uptoBulk d + uptoBulkAll r
def uptoBulkEntries {H : Type} : List (Lit × DataW H) → Nat
  | [] => 0
  | x :: r => uptoBulkEntry x + uptoBulkEntries r
def uptoBulkEntry {H : Type} : Lit × DataW H → Nat
  | (.string bytes, d) => bytes.length + uptoBulk d + 1
  | (_, d) => uptoBulk d + 1
 end
def uptoSmall : (H : Type) → List (DataW H) → Bool := fun _ ds => decide (uptoBulkAll ds ≤ 1048576)
def OpenSpec.upto (s : _root_.Go.ChangeSpec) : _root_.Go.OpenSpec := { _root_.Go.OpenSpec.ofChange s with cond := some uptoSmall }

/-- 'fustianlaw.CursorsNorms', WHERE WHAT IT READS IS OF BULK AT MOST 1048576: true; the input reads as it did. -/
def cursorsNormsUptoRow : OpenClaim := { program := "ytkemhbclkglmbaa", sum := "ab35f9d8af078b1ce94c5a26d3aa09d2c68a7b346e7b7850dd9db549211796a5", func := "fustian/fustianlaw.CursorsNorms", spec := "cursorsNorms", inPlace := ["internal/reflectlite.ValueOf", "internal/reflectlite.Swapper", "(internal/reflectlite.Value).Len"], unfollowed := true, recurses := true, apart := false, narrowed := true }
def CursorsNormsUptoSaid : Prop := cursorsNormsUptoRow.holds Try.pinned (OpenSpec.upto cursorsNormsSpec)

/-- 'fustianlaw.CursorsTypes', WHERE WHAT IT READS IS OF BULK AT MOST 1048576: true; the input reads as it did. -/
def cursorsTypesUptoRow : OpenClaim := { program := "ytkemhbclkglmbaa", sum := "ab35f9d8af078b1ce94c5a26d3aa09d2c68a7b346e7b7850dd9db549211796a5", func := "fustian/fustianlaw.CursorsTypes", spec := "cursorsTypes", inPlace := ["internal/reflectlite.ValueOf", "internal/reflectlite.Swapper", "(internal/reflectlite.Value).Len"], unfollowed := true, recurses := true, apart := false, narrowed := true }
def CursorsTypesUptoSaid : Prop := cursorsTypesUptoRow.holds Try.pinned (OpenSpec.upto cursorsTypesSpec)

/-- 'fustianlaw.CursorsFollows', WHERE WHAT IT READS IS OF BULK AT MOST 1048576: true; the input reads as it did. -/
def cursorsFollowsUptoRow : OpenClaim := { program := "ytkemhbclkglmbaa", sum := "ab35f9d8af078b1ce94c5a26d3aa09d2c68a7b346e7b7850dd9db549211796a5", func := "fustian/fustianlaw.CursorsFollows", spec := "cursorsFollows", inPlace := ["internal/reflectlite.ValueOf", "internal/reflectlite.Swapper", "(internal/reflectlite.Value).Len"], unfollowed := true, recurses := true, apart := false, narrowed := true }
def CursorsFollowsUptoSaid : Prop := cursorsFollowsUptoRow.holds Try.pinned (OpenSpec.upto cursorsFollowsSpec)

/-- 'fustiantop.TopTyped', WHERE WHAT IT READS IS OF BULK AT MOST 1048576: true; the input reads as it did. -/
def topTypedUptoRow : OpenClaim := { program := "ytkemhbclkglmbaa", sum := "ab35f9d8af078b1ce94c5a26d3aa09d2c68a7b346e7b7850dd9db549211796a5", func := "fustian/fustiantop.TopTyped", spec := "topTyped", inPlace := ["internal/abi.NoEscape"], unfollowed := true, recurses := true, apart := false, narrowed := true }
def TopTypedUptoSaid : Prop := topTypedUptoRow.holds Try.pinned (OpenSpec.upto topTypedSpec)

/-- 'fustianlaw.FuzzyGuesses', WHERE WHAT IT READS IS OF BULK AT MOST 1048576: true; the input reads as it did. -/
def fuzzyGuessesUptoRow : OpenClaim := { program := "ytkemhbclkglmbaa", sum := "ab35f9d8af078b1ce94c5a26d3aa09d2c68a7b346e7b7850dd9db549211796a5", func := "fustian/fustianlaw.FuzzyGuesses", spec := "fuzzyGuesses", inPlace := ["internal/reflectlite.ValueOf", "internal/reflectlite.Swapper", "(internal/reflectlite.Value).Len"], unfollowed := true, recurses := true, apart := false, narrowed := true }
def FuzzyGuessesUptoSaid : Prop := fuzzyGuessesUptoRow.holds Try.pinned (OpenSpec.upto fuzzyGuessesSpec)

/-- 'fustianlaw.SuffixAgains', WHERE WHAT IT READS IS OF BULK AT MOST 1048576: true; the input reads as it did. -/
def suffixAgainsUptoRow : OpenClaim := { program := "ytkemhbclkglmbaa", sum := "ab35f9d8af078b1ce94c5a26d3aa09d2c68a7b346e7b7850dd9db549211796a5", func := "fustian/fustianlaw.SuffixAgains", spec := "suffixAgains", unfollowed := true, recurses := true, apart := false, narrowed := true }
def SuffixAgainsUptoSaid : Prop := suffixAgainsUptoRow.holds Try.pinned (OpenSpec.upto suffixAgainsSpec)

/-- 'fustianlaw.SuffixFinds', WHERE WHAT IT READS IS OF BULK AT MOST 1048576: true; the input reads as it did. -/
def suffixFindsUptoRow : OpenClaim := { program := "ytkemhbclkglmbaa", sum := "ab35f9d8af078b1ce94c5a26d3aa09d2c68a7b346e7b7850dd9db549211796a5", func := "fustian/fustianlaw.SuffixFinds", spec := "suffixFinds", unfollowed := true, recurses := true, apart := false, narrowed := true }
def SuffixFindsUptoSaid : Prop := suffixFindsUptoRow.holds Try.pinned (OpenSpec.upto suffixFindsSpec)

/-- 'fustianlaw.SuffixSorts', WHERE WHAT IT READS IS OF BULK AT MOST 1048576: true; the input reads as it did. -/
def suffixSortsUptoRow : OpenClaim := { program := "ytkemhbclkglmbaa", sum := "ab35f9d8af078b1ce94c5a26d3aa09d2c68a7b346e7b7850dd9db549211796a5", func := "fustian/fustianlaw.SuffixSorts", spec := "suffixSorts", inPlace := ["internal/reflectlite.ValueOf", "internal/reflectlite.Swapper", "(internal/reflectlite.Value).Len"], unfollowed := true, recurses := true, apart := false, narrowed := true }
def SuffixSortsUptoSaid : Prop := suffixSortsUptoRow.holds Try.pinned (OpenSpec.upto suffixSortsSpec)

/-- 'fustianlaw.SuffixCommons', WHERE WHAT IT READS IS OF BULK AT MOST 1048576: true; the input reads as it did. -/
def suffixCommonsUptoRow : OpenClaim := { program := "ytkemhbclkglmbaa", sum := "ab35f9d8af078b1ce94c5a26d3aa09d2c68a7b346e7b7850dd9db549211796a5", func := "fustian/fustianlaw.SuffixCommons", spec := "suffixCommons", inPlace := ["internal/reflectlite.ValueOf", "internal/reflectlite.Swapper", "(internal/reflectlite.Value).Len"], unfollowed := true, recurses := true, apart := false, narrowed := true }
def SuffixCommonsUptoSaid : Prop := suffixCommonsUptoRow.holds Try.pinned (OpenSpec.upto suffixCommonsSpec)

/-- 'fustianlaw.SuffixUnlikes', WHERE WHAT IT READS IS OF BULK AT MOST 1048576: true; the input reads as it did. -/
def suffixUnlikesUptoRow : OpenClaim := { program := "ytkemhbclkglmbaa", sum := "ab35f9d8af078b1ce94c5a26d3aa09d2c68a7b346e7b7850dd9db549211796a5", func := "fustian/fustianlaw.SuffixUnlikes", spec := "suffixUnlikes", inPlace := ["internal/reflectlite.ValueOf", "internal/reflectlite.Swapper", "(internal/reflectlite.Value).Len"], unfollowed := true, recurses := true, apart := false, narrowed := true }
def SuffixUnlikesUptoSaid : Prop := suffixUnlikesUptoRow.holds Try.pinned (OpenSpec.upto suffixUnlikesSpec)

/-- 'fustianlaw.RopeDepths', WHERE WHAT IT READS IS OF BULK AT MOST 1048576: true; the input reads as it did. -/
def ropeDepthsUptoRow : OpenClaim := { program := "ytkemhbclkglmbaa", sum := "ab35f9d8af078b1ce94c5a26d3aa09d2c68a7b346e7b7850dd9db549211796a5", func := "fustian/fustianlaw.RopeDepths", spec := "ropeDepths", inPlace := ["internal/bytealg.CountString", "internal/bytealg.IndexByteString", "internal/bytealg.IndexString"], unfollowed := true, recurses := true, named := ["internal/bytealg.MaxLen"], apart := false, narrowed := true }
def RopeDepthsUptoSaid : Prop := ropeDepthsUptoRow.holds Try.pinned (OpenSpec.upto ropeDepthsSpec)

/-- 'fustianlaw.RopeMeasures', WHERE WHAT IT READS IS OF BULK AT MOST 1048576: true; the input reads as it did. -/
def ropeMeasuresUptoRow : OpenClaim := { program := "ytkemhbclkglmbaa", sum := "ab35f9d8af078b1ce94c5a26d3aa09d2c68a7b346e7b7850dd9db549211796a5", func := "fustian/fustianlaw.RopeMeasures", spec := "ropeMeasures", inPlace := ["internal/bytealg.CountString", "internal/bytealg.IndexByteString", "internal/bytealg.IndexString"], unfollowed := true, recurses := true, named := ["internal/bytealg.MaxLen"], apart := false, narrowed := true }
def RopeMeasuresUptoSaid : Prop := ropeMeasuresUptoRow.holds Try.pinned (OpenSpec.upto ropeMeasuresSpec)

end Rows
end Go.Proofs.Ytkemhbclkglmbaa
