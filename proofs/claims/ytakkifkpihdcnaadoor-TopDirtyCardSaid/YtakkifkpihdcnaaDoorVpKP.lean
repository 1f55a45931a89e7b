/-
  Numbers picked, and texts of few letters.
-/
import Derived.Test.YtakkifkpihdcnaaDoorVpC
set_option linter.unusedVariables false
set_option linter.unusedSimpArgs false
namespace Go.Fu
open Go.Vc
noncomputable section
abbrev pickPre (x : Int × Int) : Prop := inI64 x.1 ∧ 0 < x.2 ∧ x.2 ≤ 1000000
def pickOf (a n : Int) : Int := a % n
def keep_Picked_ct : Ct := ⟨tys2 tI tI, [.val tI], fun x => pickPre x, fun x => pickOf x.1 x.2⟩
def fewByte (x : Int) : UInt8 := if x % 2 = 0 then 97 else 98
def fewOf (l : List Int) (n : Int) : Bytes := (l.take n.toNat).map fewByte
abbrev fewPre (x : List Int × Int) : Prop := (∀ i ∈ x.1, inI64 i) ∧ 0 ≤ x.2 ∧ x.2 ≤ 1000
def keep_Few_ct : Ct := ⟨tys2 (.sl tI) tI, [.val .str], fun x => fewPre x, fun x => fewOf x.1 x.2⟩
end
theorem few_len (l : List Int) (n : Int) : (fewOf l n).length ≤ n.toNat := by
  unfold fewOf; rw [List.length_map, List.length_take]; omega
theorem few_succ {l : List Int} {i : Int} (h0 : 0 ≤ i) (h1 : i < l.length) : fewOf l (i + 1) = fewOf l i ++ [fewByte (gt l i)] := by
  unfold fewOf; rw [take_gt h0 h1]; simp
theorem few_one (x : Int) : gt [[(97 : UInt8)], [98]] (pickOf x 2) = [fewByte x] := by
  unfold fewByte pickOf
  rcases (show x % 2 = 0 ∨ x % 2 = 1 by omega) with h | h
  · rw [h, if_pos rfl]; rfl
  · rw [h, if_neg (by decide)]; rfl
end Go.Fu
