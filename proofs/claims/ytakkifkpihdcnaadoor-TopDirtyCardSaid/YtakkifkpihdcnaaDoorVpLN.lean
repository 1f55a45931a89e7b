/-
  Lines cut at each line feed, one after the other; their numbers.
-/
import Derived.Test.YtakkifkpihdcnaaDoorVpG
import Derived.Test.YtakkifkpihdcnaaDoorVpC
set_option linter.unusedVariables false
set_option linter.unusedSimpArgs false
namespace Go.Fu
open Go.Vc
noncomputable section
theorem idx_cons (c : UInt8) (s : Bytes) : Lib.indexByte (c :: s) 10 = if c = 10 then 0 else if Lib.indexByte s 10 = -1 then -1 else Lib.indexByte s 10 + 1 := by
  simp only [Lib.indexByte, beq_iff_eq]
theorem cut_at : ∀ (s cur : Bytes), linesRec cur s = if Lib.indexByte s 10 < 0 then [cur ++ s] else (cur ++ s.take (Lib.indexByte s 10).toNat) :: linesRec [] (s.drop ((Lib.indexByte s 10).toNat + 1))
  | [], cur => by simp [linesRec, Lib.indexByte]
  | c :: s, cur => by
    have h1 := Lib.indexByte_ge s 10
    rw [idx_cons, linesRec]
    by_cases h : c = 10
    · rw [if_pos h, if_pos h, if_neg (by omega)]; simp
    · rw [if_neg h, if_neg h, cut_at s (cur ++ [c])]
      by_cases e : Lib.indexByte s 10 = -1
      · rw [if_pos (by omega), if_pos e, if_pos (by omega)]; simp
      · rw [if_neg (by omega), if_neg e, if_neg (by omega), show (Lib.indexByte s 10 + 1).toNat = (Lib.indexByte s 10).toNat + 1 by omega]
        simp
theorem cut_next (s : Bytes) : cutLines s = if Lib.indexByte s 10 < 0 then [s] else s.take (Lib.indexByte s 10).toNat :: cutLines (s.drop ((Lib.indexByte s 10).toNat + 1)) := by
  rw [cutLines_rec, cut_at, cutLines_rec]; simp
theorem idx_lt {s : Bytes} (h : ¬ Lib.indexByte s 10 < 0) : (Lib.indexByte s 10).toNat < s.length := by
  rcases indexByte_spec s 10 with h1 | h1
  · omega
  · omega
/-- The numbers of a text's lines. -/
def polyLines (s : Bytes) : List Int × Int := if 600 < s.length then ([], 1) else ((cutLines s).map fun l => (polyOf l).1, 0)
def poly_Lines_ct : Ct := ⟨tys1 .str, [.own tI, .val tI], fun _ => True, fun s => polyLines s⟩
def ref_PolyLines_ct : Ct := poly_Lines_ct
end
end Go.Fu
