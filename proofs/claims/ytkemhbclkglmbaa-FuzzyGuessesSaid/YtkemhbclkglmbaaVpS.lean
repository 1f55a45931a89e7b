/-
  How far words are from each other: a table, row by row; a band about its middle.
-/
import Derived.Test.YtkemhbclkglmbaaVpB
set_option linter.unusedVariables false
set_option linter.unusedSimpArgs false
namespace Go.Fu
open Go.Vc
noncomputable section
/-- How far the first i bytes are from the first k ones. -/
def lev (a b : Bytes) : Nat → Nat → Int
  | 0, k => k
  | i + 1, 0 => i + 1
  | i + 1, k + 1 => if gt a i = gt b k then lev a b i k else 1 + min (min (lev a b i k) (lev a b i (k + 1))) (lev a b (i + 1) k)
theorem lev_zero (a b : Bytes) (k : Nat) : lev a b 0 k = k := by simp [lev]
theorem lev_left (a b : Bytes) (i : Nat) : lev a b i 0 = i := by cases i <;> simp [lev]
theorem lev_eq {a b : Bytes} {i k : Nat} (h : gt a (i : Int) = gt b (k : Int)) : lev a b (i + 1) (k + 1) = lev a b i k := by
  rw [lev, if_pos h]
theorem lev_ne {a b : Bytes} {i k : Nat} (h : ¬ gt a (i : Int) = gt b (k : Int)) : lev a b (i + 1) (k + 1) = 1 + min (min (lev a b i k) (lev a b i (k + 1))) (lev a b (i + 1) k) := by
  rw [lev, if_neg h]
theorem lev_near (a b : Bytes) : ∀ n i k : Nat, i + k ≤ n → (lev a b i k ≤ lev a b (i + 1) k + 1 ∧ lev a b (i + 1) k ≤ lev a b i k + 1) ∧ (lev a b i k ≤ lev a b i (k + 1) + 1 ∧ lev a b i (k + 1) ≤ lev a b i k + 1)
  | 0, i, k, h => by
    have : i = 0 := by omega
    have : k = 0 := by omega
    subst_vars
    rw [lev_left, lev_left, lev_zero]
    omega
  | n + 1, i, k, h => by
    have ih := lev_near a b n
    constructor
    · cases k with
      | zero => rw [lev_left, lev_left]; omega
      | succ k =>
        have g := ih i k (by omega)
        by_cases e : gt a (i : Int) = gt b (k : Int)
        · rw [lev_eq e]; omega
        · rw [lev_ne e]; omega
    · cases i with
      | zero => rw [lev_zero, lev_zero]; omega
      | succ i =>
        have g := ih i k (by omega)
        by_cases e : gt a (i : Int) = gt b (k : Int)
        · rw [lev_eq e]; omega
        · rw [lev_ne e]; omega
theorem lev_step (a b : Bytes) (i k : Nat) : lev a b (i + 1) (k + 1) = min (min (lev a b i k + if gt a (i : Int) = gt b (k : Int) then 0 else 1) (lev a b (i + 1) k + 1)) (lev a b i (k + 1) + 1) := by
  have g := lev_near a b (i + k) i k (Nat.le_refl _)
  by_cases e : gt a (i : Int) = gt b (k : Int)
  · rw [lev_eq e, if_pos e]; omega
  · rw [lev_ne e, if_neg e]; omega
theorem lev_bd (a b : Bytes) : ∀ n i k : Nat, i + k ≤ n → 0 ≤ lev a b i k ∧ (i : Int) - k ≤ lev a b i k ∧ (k : Int) - i ≤ lev a b i k ∧ lev a b i k ≤ i + k
  | 0, i, k, h => by
    have : i = 0 := by omega
    have : k = 0 := by omega
    subst_vars
    rw [lev_zero]; omega
  | n + 1, i, k, h => by
    cases i with
    | zero => rw [lev_zero]; omega
    | succ i => cases k with
      | zero => rw [lev_left]; omega
      | succ k =>
        have g1 := lev_bd a b n i k (by omega)
        have g2 := lev_bd a b n i (k + 1) (by omega)
        have g3 := lev_bd a b n (i + 1) k (by omega)
        by_cases e : gt a (i : Int) = gt b (k : Int)
        · rw [lev_eq e]; omega
        · rw [lev_ne e]; omega
def levZ (a b : Bytes) (i k : Int) : Int := lev a b i.toNat k.toNat
theorem levZ_zero {a b : Bytes} {k : Int} (h : 0 ≤ k) : levZ a b 0 k = k := by
  unfold levZ; rw [Int.toNat_zero, lev_zero]; omega
theorem levZ_left {a b : Bytes} {i : Int} (h : 0 ≤ i) : levZ a b i 0 = i := by
  unfold levZ; rw [Int.toNat_zero, lev_left]; omega
theorem levZ_step {a b : Bytes} {i k : Int} (h0 : 0 ≤ i) (h1 : 0 ≤ k) : levZ a b (i + 1) (k + 1) = min (min (levZ a b i k + if gt a i = gt b k then 0 else 1) (levZ a b (i + 1) k + 1)) (levZ a b i (k + 1) + 1) := by
  unfold levZ
  have e1 : (i + 1).toNat = i.toNat + 1 := by omega
  have e2 : (k + 1).toNat = k.toNat + 1 := by omega
  rw [e1, e2, lev_step, show ((i.toNat : Nat) : Int) = i by omega, show ((k.toNat : Nat) : Int) = k by omega]
theorem levZ_same {a b : Bytes} {i k : Int} (h0 : 0 ≤ i) (h1 : 0 ≤ k) (e : gt a i = gt b k) : levZ a b (i + 1) (k + 1) = levZ a b i k := by
  unfold levZ
  have e1 : (i + 1).toNat = i.toNat + 1 := by omega
  have e2 : (k + 1).toNat = k.toNat + 1 := by omega
  rw [e1, e2, lev_eq (by rw [show ((i.toNat : Nat) : Int) = i by omega, show ((k.toNat : Nat) : Int) = k by omega]; exact e)]
theorem levZ_other {a b : Bytes} {i k : Int} (h0 : 0 ≤ i) (h1 : 0 ≤ k) (e : ¬ gt a i = gt b k) : levZ a b (i + 1) (k + 1) = 1 + min (min (levZ a b i k) (levZ a b i (k + 1))) (levZ a b (i + 1) k) := by
  unfold levZ
  have e1 : (i + 1).toNat = i.toNat + 1 := by omega
  have e2 : (k + 1).toNat = k.toNat + 1 := by omega
  rw [e1, e2, lev_ne (by rw [show ((i.toNat : Nat) : Int) = i by omega, show ((k.toNat : Nat) : Int) = k by omega]; exact e)]
theorem levZ_bd (a b : Bytes) {i k : Int} (h0 : 0 ≤ i) (h1 : 0 ≤ k) : 0 ≤ levZ a b i k ∧ i - k ≤ levZ a b i k ∧ k - i ≤ levZ a b i k ∧ levZ a b i k ≤ i + k := by
  have := lev_bd a b (i.toNat + k.toNat) i.toNat k.toNat (Nat.le_refl _)
  unfold levZ
  omega
def farOf (a b : Bytes) : Int := levZ a b a.length b.length
abbrev wordPre (a : Bytes) : Prop := a.length ≤ 20
def fuzzy_far_ct : Ct := ⟨tys2 .str .str, [.val tI], fun x => wordPre x.1 ∧ wordPre x.2, fun x => farOf x.1 x.2⟩
def ref_farOf_ct : Ct := fuzzy_far_ct
def longOf (l : List Bytes) : Bool := bo (∃ w ∈ l, 20 < w.length)
abbrev wordsPre (l : List Bytes) : Prop := l.length ≤ 140737488351232
def fuzzy_long_ct : Ct := ⟨tys1 (.sl .str), [.val .bool], fun l => wordsPre l, fun l => longOf l⟩
def fuzzyFar (a b : Bytes) : Int × Int := if 20 < a.length ∨ 20 < b.length then (0, 1) else (farOf a b, 0)
def fuzzy_Far_ct : Ct := ⟨tys2 .str .str, [.val tI, .val tI], fun _ => True, fun x => fuzzyFar x.1 x.2⟩
def ref_FuzzyFar_ct : Ct := fuzzy_Far_ct
def nearOf (a b : Bytes) (most : Int) : Bool := bo (farOf a b ≤ most)
abbrev mostPre (m : Int) : Prop := 0 ≤ m ∧ m ≤ 20
def fuzzy_band_ct : Ct := ⟨tys3 .str .str tI, [.val .bool], fun x => wordPre x.1 ∧ wordPre x.2.1 ∧ mostPre x.2.2, fun x => nearOf x.1 x.2.1 x.2.2⟩
def fuzzyNear (a b : Bytes) (most : Int) : Bool × Int := if 20 < a.length ∨ 20 < b.length then (false, 1) else if most < 0 ∨ 20 < most then (false, 2) else (nearOf a b most, 0)
def fuzzy_Near_ct : Ct := ⟨tys3 .str .str tI, [.val .bool, .val tI], fun _ => True, fun x => fuzzyNear x.1 x.2.1 x.2.2⟩
def ref_FuzzyNear_ct : Ct := fuzzy_Near_ct
end
end Go.Fu
