/-
  No cell of these rows narrows 'for every input' (looked for: loops, veiled, ifaces, maps, wideKeys, modest, calm, conditions, laid).
  DERIVED. THE GIVEN ROWS OF THIS SEAT. 10 by the template 'for every input the law returns true; each argument reads behind the call as it read before'; 0 by the template 'total and deterministic' (their statements: YtmknkkafindicaaTotals.lean).
  GIVEN WITH THE SEED: the statements are not yours to turn. If you find one false, say at which input.
  Laid BY PROGRAM, IN A SANDBOX (cutbox-rows.mjs): the forced cells as the released guide's own fill.sh prints them over the translation 82a28b2dbacd0f87… (all of the seat's roots in one cut). By AI agents, Wed Nov 11 2026. No macro, syntax, notation, axiom, sorry.
-/
import Derived.Test.YtmknkkafindicaaChecked
import GoSem.Claim
import GoSem.ClaimJoined
import GoSem.ClaimMapViews
import Derived.JoinedTies
import Derived.KernelRfl
namespace Go.Proofs.Ytmknkkafindicaa
/- THE CELL 'sum', in the pinned program and in every row, IS THE sha256 OF THE DUMP (.gsa) THAT YtmknkkafindicaaProg.lean LOADS. Nothing in Lean hashes anything: it is a label: what it is worth is what the hold of that sum in a sandbox is worth. -/
noncomputable def Try.pinned : Pinned := { name := "ytmknkkafindicaa", sum := "82a28b2dbacd0f870a0d2acf880db31bc57d21606cc1b126486f620f963282f2", checked := Try.checked }
namespace Rows
def none {H : Type} : Left H := { results := [], args := [] }

/-- 'fustianlaw.WrapCosts': WHATEVER THE INPUT: true; the input reads as it did. -/
def wrapCostsSpec : ChangeSpec := { name := "wrapCosts", fn := fun _ => fun
  | [d1, d2, d3] => { results := [.lit (.bool true)], args := [d1, d2, d3] }
  | _ => none }
def wrapCostsRow : OpenClaim := { program := "ytmknkkafindicaa", sum := "82a28b2dbacd0f870a0d2acf880db31bc57d21606cc1b126486f620f963282f2", func := "fustian/fustianlaw.WrapCosts", spec := "wrapCosts", unfollowed := true, recurses := true, apart := false }
def WrapCostsSaid : Prop := wrapCostsRow.holds Try.pinned (OpenSpec.ofChange wrapCostsSpec)

/-- ITS FALSE NEIGHBOUR: 'it returns false'. Refute it at one input. -/
def wrapCostsWrong : ChangeSpec := { name := "wrapCosts", fn := fun _ => fun
  | [d1, d2, d3] => { results := [.lit (.bool false)], args := [d1, d2, d3] }
  | _ => none }
def WrapCostsWrongFalsely : Prop := wrapCostsRow.holds Try.pinned (OpenSpec.ofChange wrapCostsWrong)

/-- 'fustianlaw.LinesUpdates': WHATEVER THE INPUT: true; the input reads as it did. -/
def linesUpdatesSpec : ChangeSpec := { name := "linesUpdates", fn := fun _ => fun
  | [d1, d2, d3] => { results := [.lit (.bool true)], args := [d1, d2, d3] }
  | _ => none }
def linesUpdatesRow : OpenClaim := { program := "ytmknkkafindicaa", sum := "82a28b2dbacd0f870a0d2acf880db31bc57d21606cc1b126486f620f963282f2", func := "fustian/fustianlaw.LinesUpdates", spec := "linesUpdates", unfollowed := true, recurses := true, apart := false }
def LinesUpdatesSaid : Prop := linesUpdatesRow.holds Try.pinned (OpenSpec.ofChange linesUpdatesSpec)

/-- ITS FALSE NEIGHBOUR: 'it returns false'. Refute it at one input. -/
def linesUpdatesWrong : ChangeSpec := { name := "linesUpdates", fn := fun _ => fun
  | [d1, d2, d3] => { results := [.lit (.bool false)], args := [d1, d2, d3] }
  | _ => none }
def LinesUpdatesWrongFalsely : Prop := linesUpdatesRow.holds Try.pinned (OpenSpec.ofChange linesUpdatesWrong)

/-- 'fustianlaw.MarksMoves': WHATEVER THE INPUT: true; the input reads as it did. -/
def marksMovesSpec : ChangeSpec := { name := "marksMoves", fn := fun _ => fun
  | [d1, d2, d3] => { results := [.lit (.bool true)], args := [d1, d2, d3] }
  | _ => none }
def marksMovesRow : OpenClaim := { program := "ytmknkkafindicaa", sum := "82a28b2dbacd0f870a0d2acf880db31bc57d21606cc1b126486f620f963282f2", func := "fustian/fustianlaw.MarksMoves", spec := "marksMoves", unfollowed := true, recurses := true, apart := false }
def MarksMovesSaid : Prop := marksMovesRow.holds Try.pinned (OpenSpec.ofChange marksMovesSpec)

/-- ITS FALSE NEIGHBOUR: 'it returns false'. Refute it at one input. -/
def marksMovesWrong : ChangeSpec := { name := "marksMoves", fn := fun _ => fun
  | [d1, d2, d3] => { results := [.lit (.bool false)], args := [d1, d2, d3] }
  | _ => none }
def MarksMovesWrongFalsely : Prop := marksMovesRow.holds Try.pinned (OpenSpec.ofChange marksMovesWrong)

/-- 'fustianlaw.PosOfs': WHATEVER THE INPUT: true; the input reads as it did. -/
def posOfsSpec : ChangeSpec := { name := "posOfs", fn := fun _ => fun
  | [d] => { results := [.lit (.bool true)], args := [d] }
  | _ => none }
def posOfsRow : OpenClaim := { program := "ytmknkkafindicaa", sum := "82a28b2dbacd0f870a0d2acf880db31bc57d21606cc1b126486f620f963282f2", func := "fustian/fustianlaw.PosOfs", spec := "posOfs", inPlace := ["internal/bytealg.CountString", "internal/bytealg.IndexByteString", "internal/bytealg.IndexString"], named := ["internal/bytealg.MaxLen"], apart := false }
def PosOfsSaid : Prop := posOfsRow.holds Try.pinned (OpenSpec.ofChange posOfsSpec)

/-- ITS FALSE NEIGHBOUR: 'it returns false'. Refute it at one input. -/
def posOfsWrong : ChangeSpec := { name := "posOfs", fn := fun _ => fun
  | [d] => { results := [.lit (.bool false)], args := [d] }
  | _ => none }
def PosOfsWrongFalsely : Prop := posOfsRow.holds Try.pinned (OpenSpec.ofChange posOfsWrong)

/-- 'fustianlaw.PosAts': WHATEVER THE INPUT: true; the input reads as it did. -/
def posAtsSpec : ChangeSpec := { name := "posAts", fn := fun _ => fun
  | [d1, d2] => { results := [.lit (.bool true)], args := [d1, d2] }
  | _ => none }
def posAtsRow : OpenClaim := { program := "ytmknkkafindicaa", sum := "82a28b2dbacd0f870a0d2acf880db31bc57d21606cc1b126486f620f963282f2", func := "fustian/fustianlaw.PosAts", spec := "posAts", inPlace := ["internal/bytealg.CountString", "internal/bytealg.IndexByteString", "internal/bytealg.IndexString"], named := ["internal/bytealg.MaxLen"], apart := false }
def PosAtsSaid : Prop := posAtsRow.holds Try.pinned (OpenSpec.ofChange posAtsSpec)

/-- ITS FALSE NEIGHBOUR: 'it returns false'. Refute it at one input. -/
def posAtsWrong : ChangeSpec := { name := "posAts", fn := fun _ => fun
  | [d1, d2] => { results := [.lit (.bool false)], args := [d1, d2] }
  | _ => none }
def PosAtsWrongFalsely : Prop := posAtsRow.holds Try.pinned (OpenSpec.ofChange posAtsWrong)

/-- 'fustianlaw.SpansTakes': WHATEVER THE INPUT: true; the input reads as it did. -/
def spansTakesSpec : ChangeSpec := { name := "spansTakes", fn := fun _ => fun
  | [d1, d2, d3] => { results := [.lit (.bool true)], args := [d1, d2, d3] }
  | _ => none }
def spansTakesRow : OpenClaim := { program := "ytmknkkafindicaa", sum := "82a28b2dbacd0f870a0d2acf880db31bc57d21606cc1b126486f620f963282f2", func := "fustian/fustianlaw.SpansTakes", spec := "spansTakes", unfollowed := true, recurses := true, apart := false }
def SpansTakesSaid : Prop := spansTakesRow.holds Try.pinned (OpenSpec.ofChange spansTakesSpec)

/-- ITS FALSE NEIGHBOUR: 'it returns false'. Refute it at one input. -/
def spansTakesWrong : ChangeSpec := { name := "spansTakes", fn := fun _ => fun
  | [d1, d2, d3] => { results := [.lit (.bool false)], args := [d1, d2, d3] }
  | _ => none }
def SpansTakesWrongFalsely : Prop := spansTakesRow.holds Try.pinned (OpenSpec.ofChange spansTakesWrong)

/-- 'fustianlaw.SpansCuts': WHATEVER THE INPUT: true; the input reads as it did. -/
def spansCutsSpec : ChangeSpec := { name := "spansCuts", fn := fun _ => fun
  | [d1, d2, d3] => { results := [.lit (.bool true)], args := [d1, d2, d3] }
  | _ => none }
def spansCutsRow : OpenClaim := { program := "ytmknkkafindicaa", sum := "82a28b2dbacd0f870a0d2acf880db31bc57d21606cc1b126486f620f963282f2", func := "fustian/fustianlaw.SpansCuts", spec := "spansCuts", unfollowed := true, recurses := true, apart := false }
def SpansCutsSaid : Prop := spansCutsRow.holds Try.pinned (OpenSpec.ofChange spansCutsSpec)

/-- ITS FALSE NEIGHBOUR: 'it returns false'. Refute it at one input. -/
def spansCutsWrong : ChangeSpec := { name := "spansCuts", fn := fun _ => fun
  | [d1, d2, d3] => { results := [.lit (.bool false)], args := [d1, d2, d3] }
  | _ => none }
def SpansCutsWrongFalsely : Prop := spansCutsRow.holds Try.pinned (OpenSpec.ofChange spansCutsWrong)

/-- 'fustianlaw.SpansAdds': WHATEVER THE INPUT: true; the input reads as it did. -/
def spansAddsSpec : ChangeSpec := { name := "spansAdds", fn := fun _ => fun
  | [d1, d2, d3] => { results := [.lit (.bool true)], args := [d1, d2, d3] }
  | _ => none }
def spansAddsRow : OpenClaim := { program := "ytmknkkafindicaa", sum := "82a28b2dbacd0f870a0d2acf880db31bc57d21606cc1b126486f620f963282f2", func := "fustian/fustianlaw.SpansAdds", spec := "spansAdds", inPlace := ["slices.overlaps[fustian/api.Span]"], unfollowed := true, recurses := true, apart := false }
def SpansAddsSaid : Prop := spansAddsRow.holds Try.pinned (OpenSpec.ofChange spansAddsSpec)

/-- ITS FALSE NEIGHBOUR: 'it returns false'. Refute it at one input. -/
def spansAddsWrong : ChangeSpec := { name := "spansAdds", fn := fun _ => fun
  | [d1, d2, d3] => { results := [.lit (.bool false)], args := [d1, d2, d3] }
  | _ => none }
def SpansAddsWrongFalsely : Prop := spansAddsRow.holds Try.pinned (OpenSpec.ofChange spansAddsWrong)

/-- 'fustianlaw.SpansShifts': WHATEVER THE INPUT: true; the input reads as it did. -/
def spansShiftsSpec : ChangeSpec := { name := "spansShifts", fn := fun _ => fun
  | [d1, d2, d3] => { results := [.lit (.bool true)], args := [d1, d2, d3] }
  | _ => none }
def spansShiftsRow : OpenClaim := { program := "ytmknkkafindicaa", sum := "82a28b2dbacd0f870a0d2acf880db31bc57d21606cc1b126486f620f963282f2", func := "fustian/fustianlaw.SpansShifts", spec := "spansShifts", inPlace := ["slices.overlaps[fustian/api.Span]"], unfollowed := true, recurses := true, apart := false }
def SpansShiftsSaid : Prop := spansShiftsRow.holds Try.pinned (OpenSpec.ofChange spansShiftsSpec)

/-- ITS FALSE NEIGHBOUR: 'it returns false'. Refute it at one input. -/
def spansShiftsWrong : ChangeSpec := { name := "spansShifts", fn := fun _ => fun
  | [d1, d2, d3] => { results := [.lit (.bool false)], args := [d1, d2, d3] }
  | _ => none }
def SpansShiftsWrongFalsely : Prop := spansShiftsRow.holds Try.pinned (OpenSpec.ofChange spansShiftsWrong)

/-- 'fustianlaw.FindReplaces': WHATEVER THE INPUT: true; the input reads as it did. -/
def findReplacesSpec : ChangeSpec := { name := "findReplaces", fn := fun _ => fun
  | [d1, d2, d3] => { results := [.lit (.bool true)], args := [d1, d2, d3] }
  | _ => none }
def findReplacesRow : OpenClaim := { program := "ytmknkkafindicaa", sum := "82a28b2dbacd0f870a0d2acf880db31bc57d21606cc1b126486f620f963282f2", func := "fustian/fustianlaw.FindReplaces", spec := "findReplaces", inPlace := ["internal/abi.NoEscape"], apart := false }
def FindReplacesSaid : Prop := findReplacesRow.holds Try.pinned (OpenSpec.ofChange findReplacesSpec)

/-- ITS FALSE NEIGHBOUR: 'it returns false'. Refute it at one input. -/
def findReplacesWrong : ChangeSpec := { name := "findReplaces", fn := fun _ => fun
  | [d1, d2, d3] => { results := [.lit (.bool false)], args := [d1, d2, d3] }
  | _ => none }
def FindReplacesWrongFalsely : Prop := findReplacesRow.holds Try.pinned (OpenSpec.ofChange findReplacesWrong)

/- THE SECOND FORM. 'bulk': how many values and letters a reading holds, each counted each time it is reached (what is shared counts as often as it is met; a slice's spare places count too). A statement '..UptoSaid' is the law's where the arguments, and the package variables that the reading takes, are together of bulk at most 1048576: NARROWER than '..Said'. Prove '..Said' where nothing that the law and all that it calls make is longer than what came in: it says more and counts as full. Else prove '..UptoSaid'. A law counts once. -/
mutual
def uptoBulk {H : Type} : DataW H → Nat
  | .lit (.string bytes) => bytes.length + 1
  | .lit _ => 1
  | .nil => 1
  | .ptr d => uptoBulk d + 1
  | .slice elems spare => uptoBulkAll elems + uptoBulkAll spare + 1
  | .agg parts => uptoBulkAll parts + 1
  | .iface _ d => uptoBulk d + 1
  | .map entries => uptoBulkEntries entries + 1
  | .held _ => 1
def uptoBulkAll {H : Type} : List (DataW H) → Nat
  | [] => 0
  | d :: r => uptoBulk d + uptoBulkAll r
def uptoBulkEntries {H : Type} : List (Lit × DataW H) → Nat
  | [] => 0
  | x :: r => uptoBulkEntry x + uptoBulkEntries r
def uptoBulkEntry {H : Type} : Lit × DataW H → Nat
  | (.string bytes, d) => bytes.length + uptoBulk d + 1
  | (_, d) => uptoBulk d + 1
 end
def uptoSmall : (H : Type) → List (DataW H) → Bool := fun _ ds => decide (uptoBulkAll ds ≤ 1048576)
def OpenSpec.upto (s : _root_.Go.ChangeSpec) : _root_.Go.OpenSpec := { _root_.Go.OpenSpec.ofChange s with cond := some uptoSmall }

/-- 'fustianlaw.WrapCosts', WHERE WHAT IT READS IS OF BULK AT MOST 1048576: true; the input reads as it did. -/
def wrapCostsUptoRow : OpenClaim := { program := "ytmknkkafindicaa", sum := "82a28b2dbacd0f870a0d2acf880db31bc57d21606cc1b126486f620f963282f2", func := "fustian/fustianlaw.WrapCosts", spec := "wrapCosts", unfollowed := true, recurses := true, apart := false, narrowed := true }
def WrapCostsUptoSaid : Prop := wrapCostsUptoRow.holds Try.pinned (OpenSpec.upto wrapCostsSpec)

/-- 'fustianlaw.LinesUpdates', WHERE WHAT IT READS IS OF BULK AT MOST 1048576: true; the input reads as it did. -/
def linesUpdatesUptoRow : OpenClaim := { program := "ytmknkkafindicaa", sum := "82a28b2dbacd0f870a0d2acf880db31bc57d21606cc1b126486f620f963282f2", func := "fustian/fustianlaw.LinesUpdates", spec := "linesUpdates", unfollowed := true, recurses := true, apart := false, narrowed := true }
def LinesUpdatesUptoSaid : Prop := linesUpdatesUptoRow.holds Try.pinned (OpenSpec.upto linesUpdatesSpec)

/-- 'fustianlaw.MarksMoves', WHERE WHAT IT READS IS OF BULK AT MOST 1048576: true; the input reads as it did. -/
def marksMovesUptoRow : OpenClaim := { program := "ytmknkkafindicaa", sum := "82a28b2dbacd0f870a0d2acf880db31bc57d21606cc1b126486f620f963282f2", func := "fustian/fustianlaw.MarksMoves", spec := "marksMoves", unfollowed := true, recurses := true, apart := false, narrowed := true }
def MarksMovesUptoSaid : Prop := marksMovesUptoRow.holds Try.pinned (OpenSpec.upto marksMovesSpec)

/-- 'fustianlaw.PosOfs', WHERE WHAT IT READS IS OF BULK AT MOST 1048576: true; the input reads as it did. -/
def posOfsUptoRow : OpenClaim := { program := "ytmknkkafindicaa", sum := "82a28b2dbacd0f870a0d2acf880db31bc57d21606cc1b126486f620f963282f2", func := "fustian/fustianlaw.PosOfs", spec := "posOfs", inPlace := ["internal/bytealg.CountString", "internal/bytealg.IndexByteString", "internal/bytealg.IndexString"], named := ["internal/bytealg.MaxLen"], apart := false, narrowed := true }
def PosOfsUptoSaid : Prop := posOfsUptoRow.holds Try.pinned (OpenSpec.upto posOfsSpec)

/-- 'fustianlaw.PosAts', WHERE WHAT IT READS IS OF BULK AT MOST 1048576: true; the input reads as it did. -/
def posAtsUptoRow : OpenClaim := { program := "ytmknkkafindicaa", sum := "82a28b2dbacd0f870a0d2acf880db31bc57d21606cc1b126486f620f963282f2", func := "fustian/fustianlaw.PosAts", spec := "posAts", inPlace := ["internal/bytealg.CountString", "internal/bytealg.IndexByteString", "internal/bytealg.IndexString"], named := ["internal/bytealg.MaxLen"], apart := false, narrowed := true }
def PosAtsUptoSaid : Prop := posAtsUptoRow.holds Try.pinned (OpenSpec.upto posAtsSpec)

/-- 'fustianlaw.SpansTakes', WHERE WHAT IT READS IS OF BULK AT MOST 1048576: true; the input reads as it did. -/
def spansTakesUptoRow : OpenClaim := { program := "ytmknkkafindicaa", sum := "82a28b2dbacd0f870a0d2acf880db31bc57d21606cc1b126486f620f963282f2", func := "fustian/fustianlaw.SpansTakes", spec := "spansTakes", unfollowed := true, recurses := true, apart := false, narrowed := true }
def SpansTakesUptoSaid : Prop := spansTakesUptoRow.holds Try.pinned (OpenSpec.upto spansTakesSpec)

/-- 'fustianlaw.SpansCuts', WHERE WHAT IT READS IS OF BULK AT MOST 1048576: true; the input reads as it did. -/
def spansCutsUptoRow : OpenClaim := { program := "ytmknkkafindicaa", sum := "82a28b2dbacd0f870a0d2acf880db31bc57d21606cc1b126486f620f963282f2", func := "fustian/fustianlaw.SpansCuts", spec := "spansCuts", unfollowed := true, recurses := true, apart := false, narrowed := true }
def SpansCutsUptoSaid : Prop := spansCutsUptoRow.holds Try.pinned (OpenSpec.upto spansCutsSpec)

/-- 'fustianlaw.SpansAdds', WHERE WHAT IT READS IS OF BULK AT MOST 1048576: true; the input reads as it did. -/
def spansAddsUptoRow : OpenClaim := { program := "ytmknkkafindicaa", sum := "82a28b2dbacd0f870a0d2acf880db31bc57d21606cc1b126486f620f963282f2", func := "fustian/fustianlaw.SpansAdds", spec := "spansAdds", inPlace := ["slices.overlaps[fustian/api.Span]"], unfollowed := true, recurses := true, apart := false, narrowed := true }
def SpansAddsUptoSaid : Prop := spansAddsUptoRow.holds Try.pinned (OpenSpec.upto spansAddsSpec)

/-- 'fustianlaw.SpansShifts', WHERE WHAT IT READS IS OF BULK AT MOST 1048576: true; the input reads as it did. -/
def spansShiftsUptoRow : OpenClaim := { program := "ytmknkkafindicaa", sum := "82a28b2dbacd0f870a0d2acf880db31bc57d21606cc1b126486f620f963282f2", func := "fustian/fustianlaw.SpansShifts", spec := "spansShifts", inPlace := ["slices.overlaps[fustian/api.Span]"], unfollowed := true, recurses := true, apart := false, narrowed := true }
def SpansShiftsUptoSaid : Prop := spansShiftsUptoRow.holds Try.pinned (OpenSpec.upto spansShiftsSpec)

/-- 'fustianlaw.FindReplaces', WHERE WHAT IT READS IS OF BULK AT MOST 1048576: true; the input reads as it did. -/
def findReplacesUptoRow : OpenClaim := { program := "ytmknkkafindicaa", sum := "82a28b2dbacd0f870a0d2acf880db31bc57d21606cc1b126486f620f963282f2", func := "fustian/fustianlaw.FindReplaces", spec := "findReplaces", inPlace := ["internal/abi.NoEscape"], apart := false, narrowed := true }
def FindReplacesUptoSaid : Prop := findReplacesUptoRow.holds Try.pinned (OpenSpec.upto findReplacesSpec)

end Rows
end Go.Proofs.Ytmknkkafindicaa
