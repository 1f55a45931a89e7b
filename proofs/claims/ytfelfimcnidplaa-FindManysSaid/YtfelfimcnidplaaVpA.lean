/-
  Plain facts about lists that are read by numbers, and about conditions as truth values.
-/
import Derived.Test.YtfelfimcnidplaaVyM
set_option linter.unusedVariables false
set_option linter.unusedSimpArgs false
namespace Go.Fu
open Go.Vc

/-- The row of nothing, with its type. -/
abbrev noRow (α : Type) : List α := []
@[simp] theorem prod_eta {α β : Type} (p : α × β) : (p.1, p.2) = p := rfl
@[simp] theorem bo_true {p : Prop} : (bo p = true) ↔ p := by simp [bo]
@[simp] theorem bo_false {p : Prop} : (bo p = false) ↔ ¬ p := by simp [bo]
@[simp] theorem true_bo {p : Prop} : (true = bo p) ↔ p := by rw [eq_comm]; simp
@[simp] theorem false_bo {p : Prop} : (false = bo p) ↔ ¬ p := by rw [eq_comm]; simp
theorem bo_congr {p q : Prop} (h : p ↔ q) : bo p = bo q := by rw [propext h]
@[simp] theorem bo_eq_bo {p q : Prop} : (bo p = bo q) ↔ (p ↔ q) := by
  rw [Bool.eq_iff_iff]; simp
@[simp] theorem bo_bool {b : Bool} : bo (b = true) = b := by rw [Bool.eq_iff_iff]; simp
theorem bo_decide {p : Prop} [Decidable p] : bo p = decide p := by rw [Bool.eq_iff_iff]; simp
theorem iteP_if {α : Type} {p : Prop} [Decidable p] {a b : α} : iteP p a b = if p then a else b := by
  by_cases h : p
  · rw [iteP_pos h, if_pos h]
  · rw [iteP_neg h, if_neg h]

section
variable {α : Type} [Inhabited α] {l m : List α} {i j : Int} {n : Nat} {a : α}
theorem gt_def : gt l i = l.getD i.toNat default := rfl
theorem gt_nat : gt l (n : Int) = l.getD n default := by simp [gt]
theorem gt_in (h0 : 0 ≤ i) (h1 : i < l.length) : gt l i = l[i.toNat]'(by omega) := by
  simp [gt, List.getD_eq_getElem?_getD, List.getElem?_eq_getElem (show i.toNat < l.length by omega)]
theorem gt_nat_in (h : n < l.length) : gt l (n : Int) = l[n] := by rw [gt_in (by omega) (by omega)]; simp
theorem gt_get? (h0 : 0 ≤ i) (h1 : i < l.length) : l[i.toNat]? = some (gt l i) := by
  rw [gt_in h0 h1, List.getElem?_eq_getElem]
theorem gt_append_l (h0 : 0 ≤ i) (h1 : i < l.length) : gt (l ++ m) i = gt l i := by
  simp [gt, List.getD_eq_getElem?_getD, List.getElem?_append_left (show i.toNat < l.length by omega)]
theorem gt_append_r (h : (l.length : Int) ≤ i) : gt (l ++ m) i = gt m (i - l.length) := by
  simp only [gt, List.getD_eq_getElem?_getD, List.getElem?_append_right (show l.length ≤ i.toNat by omega)]
  congr 2
  omega
theorem gt_append_last : gt (l ++ [a]) (l.length : Int) = a := by
  rw [gt_append_r (by omega)]; simp [gt]
theorem gt_set_eq (h0 : 0 ≤ i) (h1 : i < l.length) : gt (l.set i.toNat a) i = a := by
  simp [gt, List.getD_eq_getElem?_getD, List.getElem?_set, show i.toNat < l.length by omega]
theorem gt_set_ne (h0 : 0 ≤ i) (h1 : 0 ≤ j) (h : i ≠ j) : gt (l.set i.toNat a) j = gt l j := by
  simp [gt, List.getD_eq_getElem?_getD, List.getElem?_set, show i.toNat ≠ j.toNat by omega]
theorem gt_rep {k : Nat} (h0 : 0 ≤ i) (h1 : i < k) : gt (List.replicate k a) i = a := by
  rw [gt_in h0 (by simpa using h1)]; simp
theorem gt_take {k : Nat} (h0 : 0 ≤ i) (h1 : i < k) : gt (l.take k) i = gt l i := by
  simp [gt, List.getD_eq_getElem?_getD, List.getElem?_take, show i.toNat < k by omega]
theorem gt_drop {k : Nat} (h0 : 0 ≤ i) : gt (l.drop k) i = gt l (i + k) := by
  simp only [gt, List.getD_eq_getElem?_getD, List.getElem?_drop]
  congr 2
  omega
theorem gt_cons_zero : gt (a :: l) 0 = a := rfl
theorem gt_cons_pos (h : 0 < i) : gt (a :: l) i = gt l (i - 1) := by
  have : i.toNat = (i - 1).toNat + 1 := by omega
  simp only [gt, this, List.getD_cons_succ]
theorem take_gt (h0 : 0 ≤ i) (h1 : i < l.length) : l.take (i + 1).toNat = l.take i.toNat ++ [gt l i] := by
  rw [gt_in h0 h1, show (i + 1).toNat = i.toNat + 1 by omega, List.take_succ_eq_append_getElem]
theorem drop_gt (h0 : 0 ≤ i) (h1 : i < l.length) : l.drop i.toNat = gt l i :: l.drop (i + 1).toNat := by
  rw [gt_in h0 h1, show (i + 1).toNat = i.toNat + 1 by omega, List.drop_eq_getElem_cons]
theorem ext_gt {l m : List α} (hl : l.length = m.length) (h : ∀ i : Int, 0 ≤ i → i < l.length → gt l i = gt m i) : l = m := by
  refine List.ext_getElem hl fun k h1 h2 => ?_
  have := h (k : Int) (by omega) (by omega)
  rwa [gt_nat_in h1, gt_nat_in h2] at this
theorem gt_mem (h0 : 0 ≤ i) (h1 : i < l.length) : gt l i ∈ l := by rw [gt_in h0 h1]; exact List.getElem_mem _
theorem mem_gt (h : a ∈ l) : ∃ i : Int, 0 ≤ i ∧ i < l.length ∧ gt l i = a := by
  obtain ⟨n, hn, e⟩ := List.getElem_of_mem h
  exact ⟨n, by omega, by omega, by rw [gt_nat_in hn, e]⟩
end
theorem byte_lt (b : UInt8) : (b.toNat : Int) < 256 := by have := b.toNat_lt; omega
theorem byte_nn (b : UInt8) : 0 ≤ (b.toNat : Int) := by omega
end Go.Fu
