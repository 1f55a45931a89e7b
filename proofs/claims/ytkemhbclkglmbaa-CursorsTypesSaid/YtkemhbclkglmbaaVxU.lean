/-
  Plain facts for use in proofs by the conditions: cells of lists of plain elements, found by number.
-/
import Derived.Test.YtkemhbclkglmbaaVxT
set_option linter.unusedVariables false
set_option linter.unusedSimpArgs false
namespace Go.Vc

theorem noTF {G : Prop} : (true = false) → G := fun h => nomatch h
theorem noFT {G : Prop} : (false = true) → G := fun h => nomatch h

theorem takeN_of_le : ∀ (n : Nat) (xs : List AVal), n ≤ xs.length → takeN n xs = some (xs.take n)
  | 0, _, _ => by simp [takeN]
  | n + 1, [], h => by simp at h
  | n + 1, x :: xs, h => by simp [takeN, takeN_of_le n xs (by simpa using h)]

theorem flatMap_length {α : Type} {enc : α → List AVal} {k : Nat} (hk : ∀ x, (enc x).length = k) (l : List α) : (l.flatMap enc).length = l.length * k := by
  induction l with
  | nil => simp
  | cons x l ih => simp [List.flatMap_cons, hk, ih, Nat.add_mul, Nat.add_comm]

theorem drop_flat {α : Type} {enc : α → List AVal} {k : Nat} (hk : ∀ x, (enc x).length = k) : ∀ (l : List α) (j : Nat), (l.flatMap enc).drop (j * k) = (l.drop j).flatMap enc
  | l, 0 => by simp
  | [], j + 1 => by simp
  | x :: l, j + 1 => by
    rw [List.flatMap_cons, List.drop_succ_cons, ← drop_flat hk l j, Nat.add_mul, Nat.one_mul, Nat.add_comm, ← List.drop_drop]
    rw [List.drop_left' (hk x)]

/-- Element j of a row of elements, or a part of it. -/
theorem take_flat {α : Type} {enc : α → List AVal} {k : Nat} (hk : ∀ x, (enc x).length = k) {l : List α} {j : Nat} (hj : j < l.length) (fo n : Nat) (h : fo + n ≤ k) :
    takeN n ((l.flatMap enc).drop (j * k + fo)) = some (((enc l[j]).drop fo).take n) := by
  rw [← List.drop_drop, drop_flat hk, List.drop_eq_getElem_cons hj, List.flatMap_cons, List.drop_append_of_le_length (by rw [hk]; omega), takeN_of_le _ _ (by simp [hk]; omega), List.take_append_of_le_length (by simp [hk]; omega)]

theorem take_flat0 {α : Type} {enc : α → List AVal} {k : Nat} (hk : ∀ x, (enc x).length = k) {l : List α} {j : Nat} (hj : j < l.length) :
    takeN k ((l.flatMap enc).drop (j * k)) = some (enc l[j]) := by
  have := take_flat hk hj 0 k (by omega)
  rw [Nat.add_zero] at this
  rw [this, List.drop_zero, List.take_of_length_le (by rw [hk]; omega)]

theorem take_nth {l : List AVal} {j : Nat} (hj : j < l.length) : takeN 1 (l.drop j) = some [l[j]] := by
  rw [takeN_of_le _ _ (by simp; omega), List.drop_eq_getElem_cons hj]
  simp only [List.take_succ_cons, List.take_zero]

theorem take_map {α : Type} {f : α → AVal} {l : List α} {j : Nat} (hj : j < l.length) : takeN 1 ((l.map f).drop (j * 1)) = some [f l[j]] := by
  rw [Nat.mul_one, take_nth (by simpa using hj)]
  simp

end Go.Vc
