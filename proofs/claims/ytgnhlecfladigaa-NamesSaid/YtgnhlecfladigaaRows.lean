/-
  No cell of these rows narrows 'for every input' (looked for: loops, veiled, ifaces, maps, wideKeys, modest, calm, conditions, laid).
  DERIVED. THE GIVEN ROWS OF THIS SEAT. 12 by the template 'for every input the law returns true; each argument reads behind the call as it read before'; 0 by the template 'total and deterministic' (their statements: YtgnhlecfladigaaTotals.lean).
  GIVEN WITH THE SEED: the statements are not yours to turn. If you find one false, say at which input.
  Laid BY PROGRAM, IN A SANDBOX (cutbox-rows.mjs): the forced cells as the released guide's own fill.sh prints them over the translation b55e7d2d8bd6c080… (all of the seat's roots in one cut). By AI agents, Wed Nov 11 2026. No macro, syntax, notation, axiom, sorry.
-/
import Derived.Test.YtgnhlecfladigaaChecked
import GoSem.Claim
import GoSem.ClaimJoined
import GoSem.ClaimMapViews
import Derived.JoinedTies
import Derived.KernelRfl
namespace Go.Proofs.Ytgnhlecfladigaa
/- THE CELL 'sum', in the pinned program and in every row, IS THE sha256 OF THE DUMP (.gsa) THAT YtgnhlecfladigaaProg.lean LOADS. Nothing in Lean hashes anything: it is a label: what it is worth is what the hold of that sum in a sandbox is worth. -/
noncomputable def Try.pinned : Pinned := { name := "ytgnhlecfladigaa", sum := "b55e7d2d8bd6c080308aff9dacda7e2c8d4c103ba35f54711f7a3548596b5c76", checked := Try.checked }
namespace Rows
def none {H : Type} : Left H := { results := [], args := [] }

/-- 'fustianlaw.Names': WHATEVER THE INPUT: true; the input reads as it did. -/
def namesSpec : ChangeSpec := { name := "names", fn := fun _ => fun
  | [] => { results := [.lit (.bool true)], args := [] }
  | _ => none }
def namesRow : OpenClaim := { program := "ytgnhlecfladigaa", sum := "b55e7d2d8bd6c080308aff9dacda7e2c8d4c103ba35f54711f7a3548596b5c76", func := "fustian/fustianlaw.Names", spec := "names", apart := false }
def NamesSaid : Prop := namesRow.holds Try.pinned (OpenSpec.ofChange namesSpec)

/-- ITS FALSE NEIGHBOUR: 'it returns false'. Refute it at one input. -/
def namesWrong : ChangeSpec := { name := "names", fn := fun _ => fun
  | [] => { results := [.lit (.bool false)], args := [] }
  | _ => none }
def NamesWrongFalsely : Prop := namesRow.holds Try.pinned (OpenSpec.ofChange namesWrong)

/-- 'fustianlaw.PolyMays': WHATEVER THE INPUT: true; the input reads as it did. -/
def polyMaysSpec : ChangeSpec := { name := "polyMays", fn := fun _ => fun
  | [d] => { results := [.lit (.bool true)], args := [d] }
  | _ => none }
def polyMaysRow : OpenClaim := { program := "ytgnhlecfladigaa", sum := "b55e7d2d8bd6c080308aff9dacda7e2c8d4c103ba35f54711f7a3548596b5c76", func := "fustian/fustianlaw.PolyMays", spec := "polyMays", apart := false }
def PolyMaysSaid : Prop := polyMaysRow.holds Try.pinned (OpenSpec.ofChange polyMaysSpec)

/-- ITS FALSE NEIGHBOUR: 'it returns false'. Refute it at one input. -/
def polyMaysWrong : ChangeSpec := { name := "polyMays", fn := fun _ => fun
  | [d] => { results := [.lit (.bool false)], args := [d] }
  | _ => none }
def PolyMaysWrongFalsely : Prop := polyMaysRow.holds Try.pinned (OpenSpec.ofChange polyMaysWrong)

/-- 'fustianlaw.PosMays': WHATEVER THE INPUT: true; the input reads as it did. -/
def posMaysSpec : ChangeSpec := { name := "posMays", fn := fun _ => fun
  | [d] => { results := [.lit (.bool true)], args := [d] }
  | _ => none }
def posMaysRow : OpenClaim := { program := "ytgnhlecfladigaa", sum := "b55e7d2d8bd6c080308aff9dacda7e2c8d4c103ba35f54711f7a3548596b5c76", func := "fustian/fustianlaw.PosMays", spec := "posMays", apart := false }
def PosMaysSaid : Prop := posMaysRow.holds Try.pinned (OpenSpec.ofChange posMaysSpec)

/-- ITS FALSE NEIGHBOUR: 'it returns false'. Refute it at one input. -/
def posMaysWrong : ChangeSpec := { name := "posMays", fn := fun _ => fun
  | [d] => { results := [.lit (.bool false)], args := [d] }
  | _ => none }
def PosMaysWrongFalsely : Prop := posMaysRow.holds Try.pinned (OpenSpec.ofChange posMaysWrong)

/-- 'fustianlaw.PolyOfs': WHATEVER THE INPUT: true; the input reads as it did. -/
def polyOfsSpec : ChangeSpec := { name := "polyOfs", fn := fun _ => fun
  | [d] => { results := [.lit (.bool true)], args := [d] }
  | _ => none }
def polyOfsRow : OpenClaim := { program := "ytgnhlecfladigaa", sum := "b55e7d2d8bd6c080308aff9dacda7e2c8d4c103ba35f54711f7a3548596b5c76", func := "fustian/fustianlaw.PolyOfs", spec := "polyOfs", apart := false }
def PolyOfsSaid : Prop := polyOfsRow.holds Try.pinned (OpenSpec.ofChange polyOfsSpec)

/-- ITS FALSE NEIGHBOUR: 'it returns false'. Refute it at one input. -/
def polyOfsWrong : ChangeSpec := { name := "polyOfs", fn := fun _ => fun
  | [d] => { results := [.lit (.bool false)], args := [d] }
  | _ => none }
def PolyOfsWrongFalsely : Prop := polyOfsRow.holds Try.pinned (OpenSpec.ofChange polyOfsWrong)

/-- 'fustianlaw.PolyJoins': WHATEVER THE INPUT: true; the input reads as it did. -/
def polyJoinsSpec : ChangeSpec := { name := "polyJoins", fn := fun _ => fun
  | [d1, d2] => { results := [.lit (.bool true)], args := [d1, d2] }
  | _ => none }
def polyJoinsRow : OpenClaim := { program := "ytgnhlecfladigaa", sum := "b55e7d2d8bd6c080308aff9dacda7e2c8d4c103ba35f54711f7a3548596b5c76", func := "fustian/fustianlaw.PolyJoins", spec := "polyJoins", apart := false }
def PolyJoinsSaid : Prop := polyJoinsRow.holds Try.pinned (OpenSpec.ofChange polyJoinsSpec)

/-- ITS FALSE NEIGHBOUR: 'it returns false'. Refute it at one input. -/
def polyJoinsWrong : ChangeSpec := { name := "polyJoins", fn := fun _ => fun
  | [d1, d2] => { results := [.lit (.bool false)], args := [d1, d2] }
  | _ => none }
def PolyJoinsWrongFalsely : Prop := polyJoinsRow.holds Try.pinned (OpenSpec.ofChange polyJoinsWrong)

/-- 'fustianlaw.EditChecks': WHATEVER THE INPUT: true; the input reads as it did. -/
def editChecksSpec : ChangeSpec := { name := "editChecks", fn := fun _ => fun
  | [d1, d2] => { results := [.lit (.bool true)], args := [d1, d2] }
  | _ => none }
def editChecksRow : OpenClaim := { program := "ytgnhlecfladigaa", sum := "b55e7d2d8bd6c080308aff9dacda7e2c8d4c103ba35f54711f7a3548596b5c76", func := "fustian/fustianlaw.EditChecks", spec := "editChecks", apart := false }
def EditChecksSaid : Prop := editChecksRow.holds Try.pinned (OpenSpec.ofChange editChecksSpec)

/-- ITS FALSE NEIGHBOUR: 'it returns false'. Refute it at one input. -/
def editChecksWrong : ChangeSpec := { name := "editChecks", fn := fun _ => fun
  | [d1, d2] => { results := [.lit (.bool false)], args := [d1, d2] }
  | _ => none }
def EditChecksWrongFalsely : Prop := editChecksRow.holds Try.pinned (OpenSpec.ofChange editChecksWrong)

/-- 'fustianlaw.SpansMays': WHATEVER THE INPUT: true; the input reads as it did. -/
def spansMaysSpec : ChangeSpec := { name := "spansMays", fn := fun _ => fun
  | [d1, d2] => { results := [.lit (.bool true)], args := [d1, d2] }
  | _ => none }
def spansMaysRow : OpenClaim := { program := "ytgnhlecfladigaa", sum := "b55e7d2d8bd6c080308aff9dacda7e2c8d4c103ba35f54711f7a3548596b5c76", func := "fustian/fustianlaw.SpansMays", spec := "spansMays", apart := false }
def SpansMaysSaid : Prop := spansMaysRow.holds Try.pinned (OpenSpec.ofChange spansMaysSpec)

/-- ITS FALSE NEIGHBOUR: 'it returns false'. Refute it at one input. -/
def spansMaysWrong : ChangeSpec := { name := "spansMays", fn := fun _ => fun
  | [d1, d2] => { results := [.lit (.bool false)], args := [d1, d2] }
  | _ => none }
def SpansMaysWrongFalsely : Prop := spansMaysRow.holds Try.pinned (OpenSpec.ofChange spansMaysWrong)

/-- 'fustianlaw.LinesStarts': WHATEVER THE INPUT: true; the input reads as it did. -/
def linesStartsSpec : ChangeSpec := { name := "linesStarts", fn := fun _ => fun
  | [d] => { results := [.lit (.bool true)], args := [d] }
  | _ => none }
def linesStartsRow : OpenClaim := { program := "ytgnhlecfladigaa", sum := "b55e7d2d8bd6c080308aff9dacda7e2c8d4c103ba35f54711f7a3548596b5c76", func := "fustian/fustianlaw.LinesStarts", spec := "linesStarts", apart := false }
def LinesStartsSaid : Prop := linesStartsRow.holds Try.pinned (OpenSpec.ofChange linesStartsSpec)

/-- ITS FALSE NEIGHBOUR: 'it returns false'. Refute it at one input. -/
def linesStartsWrong : ChangeSpec := { name := "linesStarts", fn := fun _ => fun
  | [d] => { results := [.lit (.bool false)], args := [d] }
  | _ => none }
def LinesStartsWrongFalsely : Prop := linesStartsRow.holds Try.pinned (OpenSpec.ofChange linesStartsWrong)

/-- 'fustianlaw.MarksNears': WHATEVER THE INPUT: true; the input reads as it did. -/
def marksNearsSpec : ChangeSpec := { name := "marksNears", fn := fun _ => fun
  | [d1, d2, d3] => { results := [.lit (.bool true)], args := [d1, d2, d3] }
  | _ => none }
def marksNearsRow : OpenClaim := { program := "ytgnhlecfladigaa", sum := "b55e7d2d8bd6c080308aff9dacda7e2c8d4c103ba35f54711f7a3548596b5c76", func := "fustian/fustianlaw.MarksNears", spec := "marksNears", apart := false }
def MarksNearsSaid : Prop := marksNearsRow.holds Try.pinned (OpenSpec.ofChange marksNearsSpec)

/-- ITS FALSE NEIGHBOUR: 'it returns false'. Refute it at one input. -/
def marksNearsWrong : ChangeSpec := { name := "marksNears", fn := fun _ => fun
  | [d1, d2, d3] => { results := [.lit (.bool false)], args := [d1, d2, d3] }
  | _ => none }
def MarksNearsWrongFalsely : Prop := marksNearsRow.holds Try.pinned (OpenSpec.ofChange marksNearsWrong)

/-- 'fustianlaw.PosJoins': WHATEVER THE INPUT: true; the input reads as it did. -/
def posJoinsSpec : ChangeSpec := { name := "posJoins", fn := fun _ => fun
  | [d1, d2] => { results := [.lit (.bool true)], args := [d1, d2] }
  | _ => none }
def posJoinsRow : OpenClaim := { program := "ytgnhlecfladigaa", sum := "b55e7d2d8bd6c080308aff9dacda7e2c8d4c103ba35f54711f7a3548596b5c76", func := "fustian/fustianlaw.PosJoins", spec := "posJoins", apart := false }
def PosJoinsSaid : Prop := posJoinsRow.holds Try.pinned (OpenSpec.ofChange posJoinsSpec)

/-- ITS FALSE NEIGHBOUR: 'it returns false'. Refute it at one input. -/
def posJoinsWrong : ChangeSpec := { name := "posJoins", fn := fun _ => fun
  | [d1, d2] => { results := [.lit (.bool false)], args := [d1, d2] }
  | _ => none }
def PosJoinsWrongFalsely : Prop := posJoinsRow.holds Try.pinned (OpenSpec.ofChange posJoinsWrong)

/-- 'fustianlaw.EditPlaces': WHATEVER THE INPUT: true; the input reads as it did. -/
def editPlacesSpec : ChangeSpec := { name := "editPlaces", fn := fun _ => fun
  | [d1, d2, d3] => { results := [.lit (.bool true)], args := [d1, d2, d3] }
  | _ => none }
def editPlacesRow : OpenClaim := { program := "ytgnhlecfladigaa", sum := "b55e7d2d8bd6c080308aff9dacda7e2c8d4c103ba35f54711f7a3548596b5c76", func := "fustian/fustianlaw.EditPlaces", spec := "editPlaces", apart := false }
def EditPlacesSaid : Prop := editPlacesRow.holds Try.pinned (OpenSpec.ofChange editPlacesSpec)

/-- ITS FALSE NEIGHBOUR: 'it returns false'. Refute it at one input. -/
def editPlacesWrong : ChangeSpec := { name := "editPlaces", fn := fun _ => fun
  | [d1, d2, d3] => { results := [.lit (.bool false)], args := [d1, d2, d3] }
  | _ => none }
def EditPlacesWrongFalsely : Prop := editPlacesRow.holds Try.pinned (OpenSpec.ofChange editPlacesWrong)

/-- 'fustianlaw.FindBorders': WHATEVER THE INPUT: true; the input reads as it did. -/
def findBordersSpec : ChangeSpec := { name := "findBorders", fn := fun _ => fun
  | [d] => { results := [.lit (.bool true)], args := [d] }
  | _ => none }
def findBordersRow : OpenClaim := { program := "ytgnhlecfladigaa", sum := "b55e7d2d8bd6c080308aff9dacda7e2c8d4c103ba35f54711f7a3548596b5c76", func := "fustian/fustianlaw.FindBorders", spec := "findBorders", apart := false }
def FindBordersSaid : Prop := findBordersRow.holds Try.pinned (OpenSpec.ofChange findBordersSpec)

/-- ITS FALSE NEIGHBOUR: 'it returns false'. Refute it at one input. -/
def findBordersWrong : ChangeSpec := { name := "findBorders", fn := fun _ => fun
  | [d] => { results := [.lit (.bool false)], args := [d] }
  | _ => none }
def FindBordersWrongFalsely : Prop := findBordersRow.holds Try.pinned (OpenSpec.ofChange findBordersWrong)

/- THE SECOND FORM. 'bulk': how many values and letters a reading holds, each counted each time it is reached (what is shared counts as often as it is met; a slice's spare places count too). A statement '..UptoSaid' is the law's where the arguments, and the package variables that the reading takes, are together of bulk at most 1048576: NARROWER than '..Said'. Prove '..Said' where nothing that the law and all that it calls make is longer than what came in: it says more and counts as full. Else prove '..UptoSaid'. A law counts once. -/
mutual
def uptoBulk {H : Type} : DataW H → Nat
  | .lit (.string bytes) => bytes.length + 1
  | .lit _ => 1
  | .nil => 1
  | .ptr d => uptoBulk d + 1
  | .slice elems spare => uptoBulkAll elems + uptoBulkAll spare + 1
  | .agg parts => uptoBulkAll parts + 1
  | .iface _ d => uptoBulk d + 1
  | .map entries => uptoBulkEntries entries + 1
  | .held _ => 1
def uptoBulkAll {H : Type} : List (DataW H) → Nat
  | [] => 0
  | d :: r => uptoBulk d + uptoBulkAll r
def uptoBulkEntries {H : Type} : List (Lit × DataW H) → Nat
  | [] => 0
  | x :: r => uptoBulkEntry x + uptoBulkEntries r
def uptoBulkEntry {H : Type} : Lit × DataW H → Nat
  | (.string bytes, d) => bytes.length + uptoBulk d + 1
  | (_, d) => uptoBulk d + 1
 end
def uptoSmall : (H : Type) → List (DataW H) → Bool := fun _ ds => decide (uptoBulkAll ds ≤ 1048576)
def OpenSpec.upto (s : _root_.Go.ChangeSpec) : _root_.Go.OpenSpec := { _root_.Go.OpenSpec.ofChange s with cond := some uptoSmall }

/-- 'fustianlaw.Names', WHERE WHAT IT READS IS OF BULK AT MOST 1048576: true; the input reads as it did. -/
def namesUptoRow : OpenClaim := { program := "ytgnhlecfladigaa", sum := "b55e7d2d8bd6c080308aff9dacda7e2c8d4c103ba35f54711f7a3548596b5c76", func := "fustian/fustianlaw.Names", spec := "names", apart := false, narrowed := true }
def NamesUptoSaid : Prop := namesUptoRow.holds Try.pinned (OpenSpec.upto namesSpec)

/-- 'fustianlaw.PolyMays', WHERE WHAT IT READS IS OF BULK AT MOST 1048576: true; the input reads as it did. -/
def polyMaysUptoRow : OpenClaim := { program := "ytgnhlecfladigaa", sum := "b55e7d2d8bd6c080308aff9dacda7e2c8d4c103ba35f54711f7a3548596b5c76", func := "fustian/fustianlaw.PolyMays", spec := "polyMays", apart := false, narrowed := true }
def PolyMaysUptoSaid : Prop := polyMaysUptoRow.holds Try.pinned (OpenSpec.upto polyMaysSpec)

/-- 'fustianlaw.PosMays', WHERE WHAT IT READS IS OF BULK AT MOST 1048576: true; the input reads as it did. -/
def posMaysUptoRow : OpenClaim := { program := "ytgnhlecfladigaa", sum := "b55e7d2d8bd6c080308aff9dacda7e2c8d4c103ba35f54711f7a3548596b5c76", func := "fustian/fustianlaw.PosMays", spec := "posMays", apart := false, narrowed := true }
def PosMaysUptoSaid : Prop := posMaysUptoRow.holds Try.pinned (OpenSpec.upto posMaysSpec)

/-- 'fustianlaw.PolyOfs', WHERE WHAT IT READS IS OF BULK AT MOST 1048576: true; the input reads as it did. -/
def polyOfsUptoRow : OpenClaim := { program := "ytgnhlecfladigaa", sum := "b55e7d2d8bd6c080308aff9dacda7e2c8d4c103ba35f54711f7a3548596b5c76", func := "fustian/fustianlaw.PolyOfs", spec := "polyOfs", apart := false, narrowed := true }
def PolyOfsUptoSaid : Prop := polyOfsUptoRow.holds Try.pinned (OpenSpec.upto polyOfsSpec)

/-- 'fustianlaw.PolyJoins', WHERE WHAT IT READS IS OF BULK AT MOST 1048576: true; the input reads as it did. -/
def polyJoinsUptoRow : OpenClaim := { program := "ytgnhlecfladigaa", sum := "b55e7d2d8bd6c080308aff9dacda7e2c8d4c103ba35f54711f7a3548596b5c76", func := "fustian/fustianlaw.PolyJoins", spec := "polyJoins", apart := false, narrowed := true }
def PolyJoinsUptoSaid : Prop := polyJoinsUptoRow.holds Try.pinned (OpenSpec.upto polyJoinsSpec)

/-- 'fustianlaw.EditChecks', WHERE WHAT IT READS IS OF BULK AT MOST 1048576: true; the input reads as it did. -/
def editChecksUptoRow : OpenClaim := { program := "ytgnhlecfladigaa", sum := "b55e7d2d8bd6c080308aff9dacda7e2c8d4c103ba35f54711f7a3548596b5c76", func := "fustian/fustianlaw.EditChecks", spec := "editChecks", apart := false, narrowed := true }
def EditChecksUptoSaid : Prop := editChecksUptoRow.holds Try.pinned (OpenSpec.upto editChecksSpec)

/-- 'fustianlaw.SpansMays', WHERE WHAT IT READS IS OF BULK AT MOST 1048576: true; the input reads as it did. -/
def spansMaysUptoRow : OpenClaim := { program := "ytgnhlecfladigaa", sum := "b55e7d2d8bd6c080308aff9dacda7e2c8d4c103ba35f54711f7a3548596b5c76", func := "fustian/fustianlaw.SpansMays", spec := "spansMays", apart := false, narrowed := true }
def SpansMaysUptoSaid : Prop := spansMaysUptoRow.holds Try.pinned (OpenSpec.upto spansMaysSpec)

/-- 'fustianlaw.LinesStarts', WHERE WHAT IT READS IS OF BULK AT MOST 1048576: true; the input reads as it did. -/
def linesStartsUptoRow : OpenClaim := { program := "ytgnhlecfladigaa", sum := "b55e7d2d8bd6c080308aff9dacda7e2c8d4c103ba35f54711f7a3548596b5c76", func := "fustian/fustianlaw.LinesStarts", spec := "linesStarts", apart := false, narrowed := true }
def LinesStartsUptoSaid : Prop := linesStartsUptoRow.holds Try.pinned (OpenSpec.upto linesStartsSpec)

/-- 'fustianlaw.MarksNears', WHERE WHAT IT READS IS OF BULK AT MOST 1048576: true; the input reads as it did. -/
def marksNearsUptoRow : OpenClaim := { program := "ytgnhlecfladigaa", sum := "b55e7d2d8bd6c080308aff9dacda7e2c8d4c103ba35f54711f7a3548596b5c76", func := "fustian/fustianlaw.MarksNears", spec := "marksNears", apart := false, narrowed := true }
def MarksNearsUptoSaid : Prop := marksNearsUptoRow.holds Try.pinned (OpenSpec.upto marksNearsSpec)

/-- 'fustianlaw.PosJoins', WHERE WHAT IT READS IS OF BULK AT MOST 1048576: true; the input reads as it did. -/
def posJoinsUptoRow : OpenClaim := { program := "ytgnhlecfladigaa", sum := "b55e7d2d8bd6c080308aff9dacda7e2c8d4c103ba35f54711f7a3548596b5c76", func := "fustian/fustianlaw.PosJoins", spec := "posJoins", apart := false, narrowed := true }
def PosJoinsUptoSaid : Prop := posJoinsUptoRow.holds Try.pinned (OpenSpec.upto posJoinsSpec)

/-- 'fustianlaw.EditPlaces', WHERE WHAT IT READS IS OF BULK AT MOST 1048576: true; the input reads as it did. -/
def editPlacesUptoRow : OpenClaim := { program := "ytgnhlecfladigaa", sum := "b55e7d2d8bd6c080308aff9dacda7e2c8d4c103ba35f54711f7a3548596b5c76", func := "fustian/fustianlaw.EditPlaces", spec := "editPlaces", apart := false, narrowed := true }
def EditPlacesUptoSaid : Prop := editPlacesUptoRow.holds Try.pinned (OpenSpec.upto editPlacesSpec)

/-- 'fustianlaw.FindBorders', WHERE WHAT IT READS IS OF BULK AT MOST 1048576: true; the input reads as it did. -/
def findBordersUptoRow : OpenClaim := { program := "ytgnhlecfladigaa", sum := "b55e7d2d8bd6c080308aff9dacda7e2c8d4c103ba35f54711f7a3548596b5c76", func := "fustian/fustianlaw.FindBorders", spec := "findBorders", apart := false, narrowed := true }
def FindBordersUptoSaid : Prop := findBordersUptoRow.holds Try.pinned (OpenSpec.upto findBordersSpec)

end Rows
end Go.Proofs.Ytgnhlecfladigaa
