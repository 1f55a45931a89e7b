/-
  No cell of these rows narrows 'for every input' (looked for: loops, veiled, ifaces, maps, wideKeys, modest, calm, conditions, laid).
  DERIVED. THE GIVEN ROWS OF THIS SEAT. 12 by the template 'for every input the law returns true; each argument reads behind the call as it read before'; 0 by the template 'total and deterministic' (their statements: YtcgggoaefceokaaTotals.lean).
  GIVEN WITH THE SEED: the statements are not yours to turn. If you find one false, say at which input.
  Laid BY PROGRAM, IN A SANDBOX (cutbox-rows.mjs): the forced cells as the released guide's own fill.sh prints them over the translation dbfcc89e477c689d… (all of the seat's roots in one cut). By AI agents, Wed Nov 11 2026. No macro, syntax, notation, axiom, sorry.
-/
import Derived.Test.YtcgggoaefceokaaChecked
import GoSem.Claim
import GoSem.ClaimJoined
import GoSem.ClaimMapViews
import Derived.JoinedTies
import Derived.KernelRfl
namespace Go.Proofs.Ytcgggoaefceokaa
/- THE CELL 'sum', in the pinned program and in every row, IS THE sha256 OF THE DUMP (.gsa) THAT YtcgggoaefceokaaProg.lean LOADS. Nothing in Lean hashes anything: it is a label: what it is worth is what the hold of that sum in a sandbox is worth. -/
noncomputable def Try.pinned : Pinned := { name := "ytcgggoaefceokaa", sum := "dbfcc89e477c689d573abb327dd568eb7231957bda6c46d54134830696220c52", checked := Try.checked }
namespace Rows
def none {H : Type} : Left H := { results := [], args := [] }

/-- 'fustianlaw.WrapChecks': WHATEVER THE INPUT: true; the input reads as it did. -/
def wrapChecksSpec : ChangeSpec := { name := "wrapChecks", fn := fun _ => fun
  | [d1, d2] => { results := [.lit (.bool true)], args := [d1, d2] }
  | _ => none }
def wrapChecksRow : OpenClaim := { program := "ytcgggoaefceokaa", sum := "dbfcc89e477c689d573abb327dd568eb7231957bda6c46d54134830696220c52", func := "fustian/fustianlaw.WrapChecks", spec := "wrapChecks", unfollowed := true, recurses := true, apart := false }
def WrapChecksSaid : Prop := wrapChecksRow.holds Try.pinned (OpenSpec.ofChange wrapChecksSpec)

/-- ITS FALSE NEIGHBOUR: 'it returns false'. Refute it at one input. -/
def wrapChecksWrong : ChangeSpec := { name := "wrapChecks", fn := fun _ => fun
  | [d1, d2] => { results := [.lit (.bool false)], args := [d1, d2] }
  | _ => none }
def WrapChecksWrongFalsely : Prop := wrapChecksRow.holds Try.pinned (OpenSpec.ofChange wrapChecksWrong)

/-- 'fustianlaw.PosFinds': WHATEVER THE INPUT: true; the input reads as it did. -/
def posFindsSpec : ChangeSpec := { name := "posFinds", fn := fun _ => fun
  | [d1, d2, d3] => { results := [.lit (.bool true)], args := [d1, d2, d3] }
  | _ => none }
def posFindsRow : OpenClaim := { program := "ytcgggoaefceokaa", sum := "dbfcc89e477c689d573abb327dd568eb7231957bda6c46d54134830696220c52", func := "fustian/fustianlaw.PosFinds", spec := "posFinds", inPlace := ["internal/bytealg.IndexByteString"], apart := false }
def PosFindsSaid : Prop := posFindsRow.holds Try.pinned (OpenSpec.ofChange posFindsSpec)

/-- ITS FALSE NEIGHBOUR: 'it returns false'. Refute it at one input. -/
def posFindsWrong : ChangeSpec := { name := "posFinds", fn := fun _ => fun
  | [d1, d2, d3] => { results := [.lit (.bool false)], args := [d1, d2, d3] }
  | _ => none }
def PosFindsWrongFalsely : Prop := posFindsRow.holds Try.pinned (OpenSpec.ofChange posFindsWrong)

/-- 'fustianlaw.DiffPatches': WHATEVER THE INPUT: true; the input reads as it did. -/
def diffPatchesSpec : ChangeSpec := { name := "diffPatches", fn := fun _ => fun
  | [d1, d2, d3] => { results := [.lit (.bool true)], args := [d1, d2, d3] }
  | _ => none }
def diffPatchesRow : OpenClaim := { program := "ytcgggoaefceokaa", sum := "dbfcc89e477c689d573abb327dd568eb7231957bda6c46d54134830696220c52", func := "fustian/fustianlaw.DiffPatches", spec := "diffPatches", apart := false }
def DiffPatchesSaid : Prop := diffPatchesRow.holds Try.pinned (OpenSpec.ofChange diffPatchesSpec)

/-- ITS FALSE NEIGHBOUR: 'it returns false'. Refute it at one input. -/
def diffPatchesWrong : ChangeSpec := { name := "diffPatches", fn := fun _ => fun
  | [d1, d2, d3] => { results := [.lit (.bool false)], args := [d1, d2, d3] }
  | _ => none }
def DiffPatchesWrongFalsely : Prop := diffPatchesRow.holds Try.pinned (OpenSpec.ofChange diffPatchesWrong)

/-- 'fustianlaw.EditApplies': WHATEVER THE INPUT: true; the input reads as it did. -/
def editAppliesSpec : ChangeSpec := { name := "editApplies", fn := fun _ => fun
  | [d1, d2] => { results := [.lit (.bool true)], args := [d1, d2] }
  | _ => none }
def editAppliesRow : OpenClaim := { program := "ytcgggoaefceokaa", sum := "dbfcc89e477c689d573abb327dd568eb7231957bda6c46d54134830696220c52", func := "fustian/fustianlaw.EditApplies", spec := "editApplies", apart := false }
def EditAppliesSaid : Prop := editAppliesRow.holds Try.pinned (OpenSpec.ofChange editAppliesSpec)

/-- ITS FALSE NEIGHBOUR: 'it returns false'. Refute it at one input. -/
def editAppliesWrong : ChangeSpec := { name := "editApplies", fn := fun _ => fun
  | [d1, d2] => { results := [.lit (.bool false)], args := [d1, d2] }
  | _ => none }
def EditAppliesWrongFalsely : Prop := editAppliesRow.holds Try.pinned (OpenSpec.ofChange editAppliesWrong)

/-- 'fustianlaw.LinesLines': WHATEVER THE INPUT: true; the input reads as it did. -/
def linesLinesSpec : ChangeSpec := { name := "linesLines", fn := fun _ => fun
  | [d1, d2] => { results := [.lit (.bool true)], args := [d1, d2] }
  | _ => none }
def linesLinesRow : OpenClaim := { program := "ytcgggoaefceokaa", sum := "dbfcc89e477c689d573abb327dd568eb7231957bda6c46d54134830696220c52", func := "fustian/fustianlaw.LinesLines", spec := "linesLines", unfollowed := true, recurses := true, apart := false }
def LinesLinesSaid : Prop := linesLinesRow.holds Try.pinned (OpenSpec.ofChange linesLinesSpec)

/-- ITS FALSE NEIGHBOUR: 'it returns false'. Refute it at one input. -/
def linesLinesWrong : ChangeSpec := { name := "linesLines", fn := fun _ => fun
  | [d1, d2] => { results := [.lit (.bool false)], args := [d1, d2] }
  | _ => none }
def LinesLinesWrongFalsely : Prop := linesLinesRow.holds Try.pinned (OpenSpec.ofChange linesLinesWrong)

/-- 'fustianlaw.SpansWidens': WHATEVER THE INPUT: true; the input reads as it did. -/
def spansWidensSpec : ChangeSpec := { name := "spansWidens", fn := fun _ => fun
  | [d1, d2] => { results := [.lit (.bool true)], args := [d1, d2] }
  | _ => none }
def spansWidensRow : OpenClaim := { program := "ytcgggoaefceokaa", sum := "dbfcc89e477c689d573abb327dd568eb7231957bda6c46d54134830696220c52", func := "fustian/fustianlaw.SpansWidens", spec := "spansWidens", inPlace := ["internal/bytealg.IndexByteString"], apart := false }
def SpansWidensSaid : Prop := spansWidensRow.holds Try.pinned (OpenSpec.ofChange spansWidensSpec)

/-- ITS FALSE NEIGHBOUR: 'it returns false'. Refute it at one input. -/
def spansWidensWrong : ChangeSpec := { name := "spansWidens", fn := fun _ => fun
  | [d1, d2] => { results := [.lit (.bool false)], args := [d1, d2] }
  | _ => none }
def SpansWidensWrongFalsely : Prop := spansWidensRow.holds Try.pinned (OpenSpec.ofChange spansWidensWrong)

/-- 'fustianlaw.EditInverts': WHATEVER THE INPUT: true; the input reads as it did. -/
def editInvertsSpec : ChangeSpec := { name := "editInverts", fn := fun _ => fun
  | [d1, d2] => { results := [.lit (.bool true)], args := [d1, d2] }
  | _ => none }
def editInvertsRow : OpenClaim := { program := "ytcgggoaefceokaa", sum := "dbfcc89e477c689d573abb327dd568eb7231957bda6c46d54134830696220c52", func := "fustian/fustianlaw.EditInverts", spec := "editInverts", apart := false }
def EditInvertsSaid : Prop := editInvertsRow.holds Try.pinned (OpenSpec.ofChange editInvertsSpec)

/-- ITS FALSE NEIGHBOUR: 'it returns false'. Refute it at one input. -/
def editInvertsWrong : ChangeSpec := { name := "editInverts", fn := fun _ => fun
  | [d1, d2] => { results := [.lit (.bool false)], args := [d1, d2] }
  | _ => none }
def EditInvertsWrongFalsely : Prop := editInvertsRow.holds Try.pinned (OpenSpec.ofChange editInvertsWrong)

/-- 'fustianlaw.WrapGreedies': WHATEVER THE INPUT: true; the input reads as it did. -/
def wrapGreediesSpec : ChangeSpec := { name := "wrapGreedies", fn := fun _ => fun
  | [d1, d2] => { results := [.lit (.bool true)], args := [d1, d2] }
  | _ => none }
def wrapGreediesRow : OpenClaim := { program := "ytcgggoaefceokaa", sum := "dbfcc89e477c689d573abb327dd568eb7231957bda6c46d54134830696220c52", func := "fustian/fustianlaw.WrapGreedies", spec := "wrapGreedies", unfollowed := true, recurses := true, apart := false }
def WrapGreediesSaid : Prop := wrapGreediesRow.holds Try.pinned (OpenSpec.ofChange wrapGreediesSpec)

/-- ITS FALSE NEIGHBOUR: 'it returns false'. Refute it at one input. -/
def wrapGreediesWrong : ChangeSpec := { name := "wrapGreedies", fn := fun _ => fun
  | [d1, d2] => { results := [.lit (.bool false)], args := [d1, d2] }
  | _ => none }
def WrapGreediesWrongFalsely : Prop := wrapGreediesRow.holds Try.pinned (OpenSpec.ofChange wrapGreediesWrong)

/-- 'fustianlaw.SchedPlays': WHATEVER THE INPUT: true; the input reads as it did. -/
def schedPlaysSpec : ChangeSpec := { name := "schedPlays", fn := fun _ => fun
  | [d] => { results := [.lit (.bool true)], args := [d] }
  | _ => none }
def schedPlaysRow : OpenClaim := { program := "ytcgggoaefceokaa", sum := "dbfcc89e477c689d573abb327dd568eb7231957bda6c46d54134830696220c52", func := "fustian/fustianlaw.SchedPlays", spec := "schedPlays", apart := false }
def SchedPlaysSaid : Prop := schedPlaysRow.holds Try.pinned (OpenSpec.ofChange schedPlaysSpec)

/-- ITS FALSE NEIGHBOUR: 'it returns false'. Refute it at one input. -/
def schedPlaysWrong : ChangeSpec := { name := "schedPlays", fn := fun _ => fun
  | [d] => { results := [.lit (.bool false)], args := [d] }
  | _ => none }
def SchedPlaysWrongFalsely : Prop := schedPlaysRow.holds Try.pinned (OpenSpec.ofChange schedPlaysWrong)

/-- 'fustianlaw.EditOvers': WHATEVER THE INPUT: true; the input reads as it did. -/
def editOversSpec : ChangeSpec := { name := "editOvers", fn := fun _ => fun
  | [d1, d2, d3] => { results := [.lit (.bool true)], args := [d1, d2, d3] }
  | _ => none }
def editOversRow : OpenClaim := { program := "ytcgggoaefceokaa", sum := "dbfcc89e477c689d573abb327dd568eb7231957bda6c46d54134830696220c52", func := "fustian/fustianlaw.EditOvers", spec := "editOvers", unfollowed := true, recurses := true, apart := false }
def EditOversSaid : Prop := editOversRow.holds Try.pinned (OpenSpec.ofChange editOversSpec)

/-- ITS FALSE NEIGHBOUR: 'it returns false'. Refute it at one input. -/
def editOversWrong : ChangeSpec := { name := "editOvers", fn := fun _ => fun
  | [d1, d2, d3] => { results := [.lit (.bool false)], args := [d1, d2, d3] }
  | _ => none }
def EditOversWrongFalsely : Prop := editOversRow.holds Try.pinned (OpenSpec.ofChange editOversWrong)

/-- 'fustianlaw.FindAlls': WHATEVER THE INPUT: true; the input reads as it did. -/
def findAllsSpec : ChangeSpec := { name := "findAlls", fn := fun _ => fun
  | [d1, d2] => { results := [.lit (.bool true)], args := [d1, d2] }
  | _ => none }
def findAllsRow : OpenClaim := { program := "ytcgggoaefceokaa", sum := "dbfcc89e477c689d573abb327dd568eb7231957bda6c46d54134830696220c52", func := "fustian/fustianlaw.FindAlls", spec := "findAlls", apart := false }
def FindAllsSaid : Prop := findAllsRow.holds Try.pinned (OpenSpec.ofChange findAllsSpec)

/-- ITS FALSE NEIGHBOUR: 'it returns false'. Refute it at one input. -/
def findAllsWrong : ChangeSpec := { name := "findAlls", fn := fun _ => fun
  | [d1, d2] => { results := [.lit (.bool false)], args := [d1, d2] }
  | _ => none }
def FindAllsWrongFalsely : Prop := findAllsRow.holds Try.pinned (OpenSpec.ofChange findAllsWrong)

/-- 'fustianlaw.WrapBests': WHATEVER THE INPUT: true; the input reads as it did. -/
def wrapBestsSpec : ChangeSpec := { name := "wrapBests", fn := fun _ => fun
  | [d1, d2] => { results := [.lit (.bool true)], args := [d1, d2] }
  | _ => none }
def wrapBestsRow : OpenClaim := { program := "ytcgggoaefceokaa", sum := "dbfcc89e477c689d573abb327dd568eb7231957bda6c46d54134830696220c52", func := "fustian/fustianlaw.WrapBests", spec := "wrapBests", unfollowed := true, recurses := true, apart := false }
def WrapBestsSaid : Prop := wrapBestsRow.holds Try.pinned (OpenSpec.ofChange wrapBestsSpec)

/-- ITS FALSE NEIGHBOUR: 'it returns false'. Refute it at one input. -/
def wrapBestsWrong : ChangeSpec := { name := "wrapBests", fn := fun _ => fun
  | [d1, d2] => { results := [.lit (.bool false)], args := [d1, d2] }
  | _ => none }
def WrapBestsWrongFalsely : Prop := wrapBestsRow.holds Try.pinned (OpenSpec.ofChange wrapBestsWrong)

/- THE SECOND FORM. 'bulk': how many values and letters a reading holds, each counted each time it is reached (what is shared counts as often as it is met; a slice's spare places count too). A statement '..UptoSaid' is the law's where the arguments, and the package variables that the reading takes, are together of bulk at most 1048576: NARROWER than '..Said'. Prove '..Said' where nothing that the law and all that it calls make is longer than what came in: it says more and counts as full. Else prove '..UptoSaid'. A law counts once. -/
mutual
def uptoBulk {H : Type} : DataW H → Nat
  | .lit (.string bytes) => bytes.length + 1
  | .lit _ => 1
  | .nil => 1
  | .ptr d => uptoBulk d + 1
  | .slice elems spare => uptoBulkAll elems + uptoBulkAll spare + 1
  | .agg parts => uptoBulkAll parts + 1
  | .iface _ d => uptoBulk d + 1
  | .map entries => uptoBulkEntries entries + 1
  | .held _ => 1
def uptoBulkAll {H : Type} : List (DataW H) → Nat
  | [] => 0
  | d :: r => uptoBulk d + uptoBulkAll r
def uptoBulkEntries {H : Type} : List (Lit × DataW H) → Nat
  | [] => 0
  | x :: r => uptoBulkEntry x + uptoBulkEntries r
def uptoBulkEntry {H : Type} : Lit × DataW H → Nat
  | (.string bytes, d) => bytes.length + uptoBulk d + 1
  | (_, d) => uptoBulk d + 1
 end
def uptoSmall : (H : Type) → List (DataW H) → Bool := fun _ ds => decide (uptoBulkAll ds ≤ 1048576)
def OpenSpec.upto (s : _root_.Go.ChangeSpec) : _root_.Go.OpenSpec := { _root_.Go.OpenSpec.ofChange s with cond := some uptoSmall }

/-- 'fustianlaw.WrapChecks', WHERE WHAT IT READS IS OF BULK AT MOST 1048576: true; the input reads as it did. -/
def wrapChecksUptoRow : OpenClaim := { program := "ytcgggoaefceokaa", sum := "dbfcc89e477c689d573abb327dd568eb7231957bda6c46d54134830696220c52", func := "fustian/fustianlaw.WrapChecks", spec := "wrapChecks", unfollowed := true, recurses := true, apart := false, narrowed := true }
def WrapChecksUptoSaid : Prop := wrapChecksUptoRow.holds Try.pinned (OpenSpec.upto wrapChecksSpec)

/-- 'fustianlaw.PosFinds', WHERE WHAT IT READS IS OF BULK AT MOST 1048576: true; the input reads as it did. -/
def posFindsUptoRow : OpenClaim := { program := "ytcgggoaefceokaa", sum := "dbfcc89e477c689d573abb327dd568eb7231957bda6c46d54134830696220c52", func := "fustian/fustianlaw.PosFinds", spec := "posFinds", inPlace := ["internal/bytealg.IndexByteString"], apart := false, narrowed := true }
def PosFindsUptoSaid : Prop := posFindsUptoRow.holds Try.pinned (OpenSpec.upto posFindsSpec)

/-- 'fustianlaw.DiffPatches', WHERE WHAT IT READS IS OF BULK AT MOST 1048576: true; the input reads as it did. -/
def diffPatchesUptoRow : OpenClaim := { program := "ytcgggoaefceokaa", sum := "dbfcc89e477c689d573abb327dd568eb7231957bda6c46d54134830696220c52", func := "fustian/fustianlaw.DiffPatches", spec := "diffPatches", apart := false, narrowed := true }
def DiffPatchesUptoSaid : Prop := diffPatchesUptoRow.holds Try.pinned (OpenSpec.upto diffPatchesSpec)

/-- 'fustianlaw.EditApplies', WHERE WHAT IT READS IS OF BULK AT MOST 1048576: true; the input reads as it did. -/
def editAppliesUptoRow : OpenClaim := { program := "ytcgggoaefceokaa", sum := "dbfcc89e477c689d573abb327dd568eb7231957bda6c46d54134830696220c52", func := "fustian/fustianlaw.EditApplies", spec := "editApplies", apart := false, narrowed := true }
def EditAppliesUptoSaid : Prop := editAppliesUptoRow.holds Try.pinned (OpenSpec.upto editAppliesSpec)

/-- 'fustianlaw.LinesLines', WHERE WHAT IT READS IS OF BULK AT MOST 1048576: true; the input reads as it did. -/
def linesLinesUptoRow : OpenClaim := { program := "ytcgggoaefceokaa", sum := "dbfcc89e477c689d573abb327dd568eb7231957bda6c46d54134830696220c52", func := "fustian/fustianlaw.LinesLines", spec := "linesLines", unfollowed := true, recurses := true, apart := false, narrowed := true }
def LinesLinesUptoSaid : Prop := linesLinesUptoRow.holds Try.pinned (OpenSpec.upto linesLinesSpec)

/-- 'fustianlaw.SpansWidens', WHERE WHAT IT READS IS OF BULK AT MOST 1048576: true; the input reads as it did. -/
def spansWidensUptoRow : OpenClaim := { program := "ytcgggoaefceokaa", sum := "dbfcc89e477c689d573abb327dd568eb7231957bda6c46d54134830696220c52", func := "fustian/fustianlaw.SpansWidens", spec := "spansWidens", inPlace := ["internal/bytealg.IndexByteString"], apart := false, narrowed := true }
def SpansWidensUptoSaid : Prop := spansWidensUptoRow.holds Try.pinned (OpenSpec.upto spansWidensSpec)

/-- 'fustianlaw.EditInverts', WHERE WHAT IT READS IS OF BULK AT MOST 1048576: true; the input reads as it did. -/
def editInvertsUptoRow : OpenClaim := { program := "ytcgggoaefceokaa", sum := "dbfcc89e477c689d573abb327dd568eb7231957bda6c46d54134830696220c52", func := "fustian/fustianlaw.EditInverts", spec := "editInverts", apart := false, narrowed := true }
def EditInvertsUptoSaid : Prop := editInvertsUptoRow.holds Try.pinned (OpenSpec.upto editInvertsSpec)

/-- 'fustianlaw.WrapGreedies', WHERE WHAT IT READS IS OF BULK AT MOST 1048576: true; the input reads as it did. -/
def wrapGreediesUptoRow : OpenClaim := { program := "ytcgggoaefceokaa", sum := "dbfcc89e477c689d573abb327dd568eb7231957bda6c46d54134830696220c52", func := "fustian/fustianlaw.WrapGreedies", spec := "wrapGreedies", unfollowed := true, recurses := true, apart := false, narrowed := true }
def WrapGreediesUptoSaid : Prop := wrapGreediesUptoRow.holds Try.pinned (OpenSpec.upto wrapGreediesSpec)

/-- 'fustianlaw.SchedPlays', WHERE WHAT IT READS IS OF BULK AT MOST 1048576: true; the input reads as it did. -/
def schedPlaysUptoRow : OpenClaim := { program := "ytcgggoaefceokaa", sum := "dbfcc89e477c689d573abb327dd568eb7231957bda6c46d54134830696220c52", func := "fustian/fustianlaw.SchedPlays", spec := "schedPlays", apart := false, narrowed := true }
def SchedPlaysUptoSaid : Prop := schedPlaysUptoRow.holds Try.pinned (OpenSpec.upto schedPlaysSpec)

/-- 'fustianlaw.EditOvers', WHERE WHAT IT READS IS OF BULK AT MOST 1048576: true; the input reads as it did. -/
def editOversUptoRow : OpenClaim := { program := "ytcgggoaefceokaa", sum := "dbfcc89e477c689d573abb327dd568eb7231957bda6c46d54134830696220c52", func := "fustian/fustianlaw.EditOvers", spec := "editOvers", unfollowed := true, recurses := true, apart := false, narrowed := true }
def EditOversUptoSaid : Prop := editOversUptoRow.holds Try.pinned (OpenSpec.upto editOversSpec)

/-- 'fustianlaw.FindAlls', WHERE WHAT IT READS IS OF BULK AT MOST 1048576: true; the input reads as it did. -/
def findAllsUptoRow : OpenClaim := { program := "ytcgggoaefceokaa", sum := "dbfcc89e477c689d573abb327dd568eb7231957bda6c46d54134830696220c52", func := "fustian/fustianlaw.FindAlls", spec := "findAlls", apart := false, narrowed := true }
def FindAllsUptoSaid : Prop := findAllsUptoRow.holds Try.pinned (OpenSpec.upto findAllsSpec)

/-- 'fustianlaw.WrapBests', WHERE WHAT IT READS IS OF BULK AT MOST 1048576: true; the input reads as it did. -/
def wrapBestsUptoRow : OpenClaim := { program := "ytcgggoaefceokaa", sum := "dbfcc89e477c689d573abb327dd568eb7231957bda6c46d54134830696220c52", func := "fustian/fustianlaw.WrapBests", spec := "wrapBests", unfollowed := true, recurses := true, apart := false, narrowed := true }
def WrapBestsUptoSaid : Prop := wrapBestsUptoRow.holds Try.pinned (OpenSpec.upto wrapBestsSpec)

end Rows
end Go.Proofs.Ytcgggoaefceokaa
