/-
  Places of a text by lines and columns: by counting line feeds, and from the last one on.
-/
import Derived.Test.YtgiglabejffciaaVpG
set_option linter.unusedVariables false
set_option linter.unusedSimpArgs false
namespace Go.Fu
open Go.Vc
noncomputable section
def posAt (s : Bytes) (at_ : Int) : (Int × Int × Int) × Int := if at_ < 0 ∨ (s.length : Int) < at_ then ((0, 0, 0), 2) else (posOf (s.take at_.toNat), 0)
def pos_At_ct : Ct := ⟨tys2 .str tI, [.val tPos, .val tI], fun x => fitS x.1, fun x => posAt x.1 x.2⟩
def ref_PosAt_ct : Ct := pos_At_ct
theorem posOf_count (s : Bytes) : (posOf s).2.1 = (s.count 10 : Int) := by
  induction s using snoc_rec with
  | h0 => simp [posOf]
  | h1 s c ih =>
    rw [posOf_snoc, List.count_append, List.count_singleton]
    simp only [posStep, beq_iff_eq]
    split <;> simp only <;> omega
theorem posOf_none {s : Bytes} (h : ∀ j : Int, 0 ≤ j → j < s.length → gt s j ≠ 10) : (posOf s).2.2 = s.length := by
  have := posOf_from (s := s) (i := 0) (by omega) s.length (by omega) fun j a b => h j a (by omega)
  rw [List.take_of_length_le (by omega)] at this
  rw [this]
  simp [posOf]
theorem posOf_last {s : Bytes} {i : Int} (h0 : 0 ≤ i) (h1 : i < s.length) (h : gt s i = 10) (hn : ∀ j : Int, i < j → j < s.length → gt s j ≠ 10) : (posOf s).2.2 = s.length - i - 1 := by
  have := posOf_from (s := s) (i := i + 1) (by omega) (s.length - i - 1).toNat (by omega) fun j a b => hn j (by omega) (by omega)
  rw [List.take_of_length_le (by omega), posOf_succ h0 h1] at this
  rw [this]
  simp only [posStep, if_pos h]
  omega
theorem ten_iff {c : UInt8} : (c.toNat : Int) = 10 ↔ c = 10 := by
  rw [← UInt8.toNat_inj]
  simp only [UInt8.reduceToNat]
  omega
end
end Go.Fu
