/-
  No cell of these rows narrows 'for every input' (looked for: loops, veiled, ifaces, maps, wideKeys, modest, calm, conditions, laid).
  DERIVED. THE GIVEN ROWS OF THIS SEAT. 2 by the template 'for every input the law returns true; each argument reads behind the call as it read before'; 0 by the template 'total and deterministic' (their statements: YtnmjgielnbajkaaTotals.lean).
  GIVEN WITH THE SEED: the statements are not yours to turn. If you find one false, say at which input.
  Laid BY PROGRAM, IN A SANDBOX (cutbox-rows.mjs): the forced cells as the released guide's own fill.sh prints them over the translation dc0d45460b7a15c2… (all of the seat's roots in one cut). By AI agents, Wed Nov 11 2026. No macro, syntax, notation, axiom, sorry.
-/
import Derived.Test.YtnmjgielnbajkaaChecked
import GoSem.Claim
import GoSem.ClaimJoined
import GoSem.ClaimMapViews
import Derived.JoinedTies
import Derived.KernelRfl
namespace Go.Proofs.Ytnmjgielnbajkaa
/- THE CELL 'sum', in the pinned program and in every row, IS THE sha256 OF THE DUMP (.gsa) THAT YtnmjgielnbajkaaProg.lean LOADS. Nothing in Lean hashes anything: it is a label: what it is worth is what the hold of that sum in a sandbox is worth. -/
noncomputable def Try.pinned : Pinned := { name := "ytnmjgielnbajkaa", sum := "dc0d45460b7a15c2fc25bfda813a88a1d35bd906d031922038a7f91d2284f977", checked := Try.checked }
namespace Rows
def none {H : Type} : Left H := { results := [], args := [] }

/-- 'fustianlaw.RopeDepths': WHATEVER THE INPUT: true; the input reads as it did. -/
def ropeDepthsSpec : ChangeSpec := { name := "ropeDepths", fn := fun _ => fun
  | [d] => { results := [.lit (.bool true)], args := [d] }
  | _ => none }
def ropeDepthsRow : OpenClaim := { program := "ytnmjgielnbajkaa", sum := "dc0d45460b7a15c2fc25bfda813a88a1d35bd906d031922038a7f91d2284f977", func := "fustian/fustianlaw.RopeDepths", spec := "ropeDepths", inPlace := ["internal/bytealg.CountString", "internal/bytealg.IndexByteString", "internal/bytealg.IndexString"], unfollowed := true, recurses := true, named := ["internal/bytealg.MaxLen"], apart := false }
def RopeDepthsSaid : Prop := ropeDepthsRow.holds Try.pinned (OpenSpec.ofChange ropeDepthsSpec)

/-- ITS FALSE NEIGHBOUR: 'it returns false'. Refute it at one input. -/
def ropeDepthsWrong : ChangeSpec := { name := "ropeDepths", fn := fun _ => fun
  | [d] => { results := [.lit (.bool false)], args := [d] }
  | _ => none }
def RopeDepthsWrongFalsely : Prop := ropeDepthsRow.holds Try.pinned (OpenSpec.ofChange ropeDepthsWrong)

/-- 'fustianlaw.RopeMeasures': WHATEVER THE INPUT: true; the input reads as it did. -/
def ropeMeasuresSpec : ChangeSpec := { name := "ropeMeasures", fn := fun _ => fun
  | [d] => { results := [.lit (.bool true)], args := [d] }
  | _ => none }
def ropeMeasuresRow : OpenClaim := { program := "ytnmjgielnbajkaa", sum := "dc0d45460b7a15c2fc25bfda813a88a1d35bd906d031922038a7f91d2284f977", func := "fustian/fustianlaw.RopeMeasures", spec := "ropeMeasures", inPlace := ["internal/bytealg.CountString", "internal/bytealg.IndexByteString", "internal/bytealg.IndexString"], unfollowed := true, recurses := true, named := ["internal/bytealg.MaxLen"], apart := false }
def RopeMeasuresSaid : Prop := ropeMeasuresRow.holds Try.pinned (OpenSpec.ofChange ropeMeasuresSpec)

/-- ITS FALSE NEIGHBOUR: 'it returns false'. Refute it at one input. -/
def ropeMeasuresWrong : ChangeSpec := { name := "ropeMeasures", fn := fun _ => fun
  | [d] => { results := [.lit (.bool false)], args := [d] }
  | _ => none }
def RopeMeasuresWrongFalsely : Prop := ropeMeasuresRow.holds Try.pinned (OpenSpec.ofChange ropeMeasuresWrong)

/- THE SECOND FORM. 'bulk': how many values and letters a reading holds, each counted each time it is reached (what is shared counts as often as it is met; a slice's spare places count too). A statement '..UptoSaid' is the law's where the arguments, and the package variables that the reading takes, are together of bulk at most 1048576: NARROWER than '..Said'. Prove '..Said' where nothing that the law and all that it calls make is longer than what came in: it says more and counts as full. Else prove '..UptoSaid'. A law counts once. -/
mutual
def uptoBulk {H : Type} : DataW H → Nat
  | .lit (.string bytes) => bytes.length + 1
  | .lit _ => 1
  | .nil => 1
  | .ptr d => uptoBulk d + 1
  | .slice elems spare => uptoBulkAll elems + uptoBulkAll spare + 1
  | .agg parts => uptoBulkAll parts + 1
  | .iface _ d => uptoBulk d + 1
  | .map entries => uptoBulkEntries entries + 1
  | .held _ => 1
def uptoBulkAll {H : Type} : List (DataW H) → Nat
  | [] => 0
  | d :: r => uptoBulk d + uptoBulkAll r
def uptoBulkEntries {H : Type} : List (Lit × DataW H) → Nat
  | [] => 0
  | x :: r => uptoBulkEntry x + uptoBulkEntries r
def uptoBulkEntry {H : Type} : Lit × DataW H → Nat
  | (.string bytes, d) => bytes.length + uptoBulk d + 1
  | (_, d) => uptoBulk d + 1
 end
def uptoSmall : (H : Type) → List (DataW H) → Bool := fun _ ds => decide (uptoBulkAll ds ≤ 1048576)
def OpenSpec.upto (s : _root_.Go.ChangeSpec) : _root_.Go.OpenSpec := { _root_.Go.OpenSpec.ofChange s with cond := some uptoSmall }

/-- 'fustianlaw.RopeDepths', WHERE WHAT IT READS IS OF BULK AT MOST 1048576: true; the input reads as it did. -/
def ropeDepthsUptoRow : OpenClaim := { program := "ytnmjgielnbajkaa", sum := "dc0d45460b7a15c2fc25bfda813a88a1d35bd906d031922038a7f91d2284f977", func := "fustian/fustianlaw.RopeDepths", spec := "ropeDepths", inPlace := ["internal/bytealg.CountString", "internal/bytealg.IndexByteString", "internal/bytealg.IndexString"], unfollowed := true, recurses := true, named := ["internal/bytealg.MaxLen"], apart := false, narrowed := true }
def RopeDepthsUptoSaid : Prop := ropeDepthsUptoRow.holds Try.pinned (OpenSpec.upto ropeDepthsSpec)

/-- 'fustianlaw.RopeMeasures', WHERE WHAT IT READS IS OF BULK AT MOST 1048576: true; the input reads as it did. -/
def ropeMeasuresUptoRow : OpenClaim := { program := "ytnmjgielnbajkaa", sum := "dc0d45460b7a15c2fc25bfda813a88a1d35bd906d031922038a7f91d2284f977", func := "fustian/fustianlaw.RopeMeasures", spec := "ropeMeasures", inPlace := ["internal/bytealg.CountString", "internal/bytealg.IndexByteString", "internal/bytealg.IndexString"], unfollowed := true, recurses := true, named := ["internal/bytealg.MaxLen"], apart := false, narrowed := true }
def RopeMeasuresUptoSaid : Prop := ropeMeasuresUptoRow.holds Try.pinned (OpenSpec.upto ropeMeasuresSpec)

end Rows
end Go.Proofs.Ytnmjgielnbajkaa
