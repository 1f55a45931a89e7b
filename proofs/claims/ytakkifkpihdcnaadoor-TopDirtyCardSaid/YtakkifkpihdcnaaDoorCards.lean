/-
  DERIVED. GIVEN WITH THE SEED: THE CARDS: each row of YtakkifkpihdcnaaDoorRows.lean that lists a variable, with what it lists TIED to the program's text (the seventh form; the later family's looks); each row that meets fmt, with fmt's text TOLD by the authors' own Lean function (tested against real Go, not proved from fmt's source: count such statements apart). THE CARD IS WHAT COUNTS. Prove the row's statement (the work); the ties are given (YtakkifkpihdcnaaDoorTie.lean); close each card by the builder's one call (the guide's Derived/Test/ToyasCard.lean, 'card_holds'). Laid BY PROGRAM, IN A SANDBOX (cutbox-door.mjs). By AI agents, Wed Nov 11 2026. No macro, syntax, notation, axiom, sorry.
-/
import Derived.Test.YtakkifkpihdcnaaDoorRows
import GoSem.ClaimSeven
namespace Go.Proofs.YtakkifkpihdcnaaDoor
namespace Rows

/-- THE TIED CARD OF 'fustianlaw.PolyLineses'. -/
def polyLinesesCard : Claim7 := { stood := { row := polyLinesesRow, standIns := [], harness := (true, "0eab3252961ffaba27c7d3e0619f247b326bba72356450ec2902b345dccba5b7"), looks := false }, kinds := [], alts := [], laidByText := true, laidKinds := [.data, .pinned], laidTests := true, laidLooks := .later }
def PolyLinesesCardSaid : Prop := Claim7.holds Tryd.pinned (.plain (OpenSpec.ofChange polyLinesesSpec)) polyLinesesCard

/-- THE TIED CARD OF 'fustiantop.TopDirty'. -/
def topDirtyCard : Claim7 := { stood := { row := topDirtyRow, standIns := [], harness := (true, "0eab3252961ffaba27c7d3e0619f247b326bba72356450ec2902b345dccba5b7"), looks := false }, kinds := [], alts := [], laidByText := true, laidKinds := [.data, .pinned], laidTests := true, laidLooks := .later }
def TopDirtyCardSaid : Prop := Claim7.holds Tryd.pinned (.plain (OpenSpec.ofChange topDirtySpec)) topDirtyCard

/-- THE SECOND FORM's CARD OF 'fustianlaw.PolyLineses'. -/
def polyLinesesUptoCard : Claim7 := { stood := { row := polyLinesesUptoRow, standIns := [], harness := (true, "0eab3252961ffaba27c7d3e0619f247b326bba72356450ec2902b345dccba5b7"), looks := false }, kinds := [], alts := [], laidByText := true, laidKinds := [.data, .pinned], laidTests := true, laidLooks := .later }
def PolyLinesesUptoCardSaid : Prop := Claim7.holds Tryd.pinned (.plain (OpenSpec.upto polyLinesesSpec)) polyLinesesUptoCard

/-- THE SECOND FORM's CARD OF 'fustiantop.TopDirty'. -/
def topDirtyUptoCard : Claim7 := { stood := { row := topDirtyUptoRow, standIns := [], harness := (true, "0eab3252961ffaba27c7d3e0619f247b326bba72356450ec2902b345dccba5b7"), looks := false }, kinds := [], alts := [], laidByText := true, laidKinds := [.data, .pinned], laidTests := true, laidLooks := .later }
def TopDirtyUptoCardSaid : Prop := Claim7.holds Tryd.pinned (.plain (OpenSpec.upto topDirtySpec)) topDirtyUptoCard
end Rows
end Go.Proofs.YtakkifkpihdcnaaDoor
