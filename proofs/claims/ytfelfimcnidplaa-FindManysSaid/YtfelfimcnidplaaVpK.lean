/-
  Places of lines in a list that ascends; halving.
-/
import Derived.Test.YtfelfimcnidplaaVpI

set_option linter.unusedVariables false
set_option linter.unusedSimpArgs false
namespace Go.Fu
open Go.Vc
theorem half_u64 {a : Int} (h0 : 0 ≤ a) (h1 : a ≤ 9223372036854775807) : (IntKind.u64.wrap a).fdiv (2 ^ min (Int.toNat 1) IntKind.u64.bits) = a / 2 := by
  have e : IntKind.u64.wrap a = a := by simp [IntKind.wrap, IntKind.bits, IntKind.signed]; omega
  rw [e]
  have : ((2 : Int) ^ min (Int.toNat 1) IntKind.u64.bits) = 2 := by decide
  rw [this, Int.fdiv_eq_ediv_of_nonneg _ (by omega)]
theorem starts_lt {l : List Int} (h : ∀ i, 0 < i → i < (l.length : Int) → gt l (i - 1) < gt l i) {i j : Int} (h0 : 0 ≤ i) (h1 : i < j) (h2 : j < l.length) : gt l i < gt l j := by
  have : ∀ n : Nat, i + 1 + n < l.length → gt l i < gt l (i + 1 + n) := by
    intro n
    induction n with
    | zero => intro hn; have := h (i + 1) (by omega) (by omega); simpa using this
    | succ n ih =>
      intro hn
      have a := ih (by omega)
      have b := h (i + 1 + ((n + 1 : Nat) : Int)) (by omega) (by omega)
      rw [show i + 1 + ((n + 1 : Nat) : Int) - 1 = i + 1 + n by omega] at b
      omega
  have := this (j - i - 1).toNat (by omega)
  rwa [show i + 1 + ((j - i - 1).toNat : Int) = j by omega] at this
/-- So many at the beginning are not above a place, and the others are. -/
theorem takeWhile_count {l : List Int} {a : Int} : ∀ {n : Int}, 0 ≤ n → n ≤ l.length → (∀ i, 0 ≤ i → i < n → gt l i ≤ a) → (n < l.length → a < gt l n) → ((l.takeWhile fun x => decide (x ≤ a)).length : Int) = n := by
  induction l with
  | nil => intro n h0 h1 _ _; simp at h1 ⊢; omega
  | cons x l ih =>
    intro n h0 h1 h2 h3
    by_cases e : n = 0
    · subst e
      have := h3 (by simp)
      rw [gt_cons_zero] at this
      rw [List.takeWhile_cons, if_neg (by simp; omega)]; rfl
    · have hx := h2 0 (by omega) (by omega)
      rw [gt_cons_zero] at hx
      rw [List.takeWhile_cons, if_pos (by simpa using hx), List.length_cons]
      have := ih (n := n - 1) (by omega) (by simp at h1; omega) (fun i a b => by have := h2 (i + 1) (by omega) (by omega); rwa [gt_cons_pos (by omega), show i + 1 - 1 = i by omega] at this) (fun h => by have := h3 (by simp; omega); rwa [gt_cons_pos (by omega)] at this)
      omega
theorem lineAt_eq {l : List Int} {a n : Int} (h0 : 0 ≤ n) (h1 : n ≤ l.length) (h2 : ∀ i, 0 ≤ i → i < n → gt l i ≤ a) (h3 : n < l.length → a < gt l n) : lineAt l a = n - 1 := by
  unfold lineAt; rw [takeWhile_count h0 h1 h2 h3]
theorem findFault_ok {text find : Bytes} : findFault text find = 0 ↔ text.length ≤ 600 ∧ find.length ≤ 20 ∧ find ≠ [] := by
  unfold findFault
  by_cases h : 600 < text.length ∨ 20 < find.length
  · rw [if_pos h]; constructor
    · intro h; omega
    · rintro ⟨_, _, _⟩; omega
  · rw [if_neg h]
    by_cases e : find = []
    · rw [if_pos e]; constructor
      · intro h; omega
      · rintro ⟨_, _, h⟩; exact (h e).elim
    · rw [if_neg e]; exact ⟨fun _ => ⟨by omega, by omega, e⟩, fun _ => rfl⟩
end Go.Fu
