/-
  Texts of few signs, out of numbers.
-/
import Derived.Test.YtakkifkpihdcnaaDoorVpKP
set_option linter.unusedVariables false
set_option linter.unusedSimpArgs false
namespace Go.Fu
open Go.Vc
noncomputable section
/-- A text of few signs. -/
def textSigns : Bytes := [97, 98, 32, 10, 97, 98, 99, 100, 32, 98, 10, 97]
def textByte (x : Int) : UInt8 := gt textSigns (x % 12)
def textOf (l : List Int) (n : Int) : Bytes := (l.take n.toNat).map textByte
def keep_TextOf_ct : Ct := ⟨tys2 (.sl tI) tI, [.val .str], fun x => fewPre x, fun x => textOf x.1 x.2⟩
theorem text_len (l : List Int) (n : Int) : (textOf l n).length ≤ n.toNat := by
  unfold textOf; rw [List.length_map, List.length_take]; omega
theorem text_succ {l : List Int} {i : Int} (h0 : 0 ≤ i) (h1 : i < l.length) : textOf l (i + 1) = textOf l i ++ [textByte (gt l i)] := by
  unfold textOf; rw [take_gt h0 h1]; simp
theorem text_one (x : Int) : List.drop 0 (List.take 1 (List.drop (pickOf x 12).toNat (List.take ((12 : Nat) : Int).toNat textSigns))) = [textByte x] := by
  unfold textByte pickOf
  rcases (show x % 12 = 0 ∨ x % 12 = 1 ∨ x % 12 = 2 ∨ x % 12 = 3 ∨ x % 12 = 4 ∨ x % 12 = 5 ∨ x % 12 = 6 ∨ x % 12 = 7 ∨ x % 12 = 8 ∨ x % 12 = 9 ∨ x % 12 = 10 ∨ x % 12 = 11 by omega) with h | h | h | h | h | h | h | h | h | h | h | h <;> rw [h] <;> rfl
end
end Go.Fu
