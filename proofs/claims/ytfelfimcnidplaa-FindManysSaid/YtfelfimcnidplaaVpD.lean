/-
  Borders of texts.
-/
import Derived.Test.YtfelfimcnidplaaVpC
set_option linter.unusedVariables false
set_option linter.unusedSimpArgs false
namespace Go.Fu
open Go.Vc

theorem bord_uniq {s : Bytes} {n k j : Int} (h : bordOk s n k) (h' : bordOk s n j) : k = j := by
  have := h.2 j h'.1
  have := h'.2 k h.1
  omega
theorem bord_eq {s : Bytes} {n k : Int} (h : bordOk s n k) : bord s n = k :=
  bord_uniq (Classical.epsilon_spec (p := bordOk s n) ⟨k, h⟩) h
theorem bord_ex (s : Bytes) (n : Int) (hn : 1 ≤ n) : ∃ k, bordOk s n k := by
  have main : ∀ (m : Nat), (m : Int) < n → (∀ j, (m : Int) < j → ¬ isBord s n j) → ∃ k, bordOk s n k := by
    intro m
    induction m with
    | zero =>
      intro h0 h
      refine ⟨0, ⟨by omega, by omega, fun i h1 h2 => by omega⟩, fun j hj => ?_⟩
      rcases (show 0 < j ∨ j ≤ 0 by omega) with q | q
      · exact (h j (by simpa using q) hj).elim
      · exact q
    | succ m ih =>
      intro h0 h
      by_cases hb : isBord s n ((m + 1 : Nat) : Int)
      · refine ⟨_, hb, fun j hj => ?_⟩
        rcases (show ((m + 1 : Nat) : Int) < j ∨ j ≤ ((m + 1 : Nat) : Int) by omega) with q | q
        · exact (h j q hj).elim
        · exact q
      · refine ih (by omega) fun j hj => ?_
        by_cases e : j = ((m + 1 : Nat) : Int)
        · rw [e]; exact hb
        · exact h j (by omega)
  exact main (n - 1).toNat (by omega) fun j hj hb => by
    have := hb.2.1
    omega
theorem bord_ok {s : Bytes} {n : Int} (hn : 1 ≤ n) : bordOk s n (bord s n) := Classical.epsilon_spec (bord_ex s n hn)

theorem isBord_trans {s : Bytes} {n m k : Int} (h : isBord s n m) (h' : isBord s m k) : isBord s n k := by
  refine ⟨h'.1, by have := h.2.1; have := h'.2.1; omega, fun i h0 h1 => ?_⟩
  rw [h'.2.2 i h0 h1, h.2.2 (m - k + i) (by have := h'.2.1; omega) (by omega)]
  congr 1
  omega
theorem isBord_down {s : Bytes} {n m k : Int} (h : isBord s n m) (h' : isBord s n k) (hk : k < m) : isBord s m k := by
  refine ⟨h'.1, hk, fun i h0 h1 => ?_⟩
  rw [h'.2.2 i h0 h1, h.2.2 (m - k + i) (by omega) (by omega)]
  congr 1
  omega
theorem isBord_pred {s : Bytes} {n k : Int} (h : isBord s (n + 1) k) (hk : 1 ≤ k) : isBord s n (k - 1) ∧ gt s (k - 1) = gt s n := by
  refine ⟨⟨by omega, by have := h.2.1; omega, fun i h0 h1 => ?_⟩, ?_⟩
  · rw [h.2.2 i h0 (by omega)]; congr 1; omega
  · rw [h.2.2 (k - 1) (by omega) (by omega)]; congr 1; omega
theorem isBord_succ {s : Bytes} {n k : Int} (h : isBord s n k) (he : gt s k = gt s n) : isBord s (n + 1) (k + 1) := by
  refine ⟨by have := h.1; omega, by have := h.2.1; omega, fun i h0 h1 => ?_⟩
  by_cases e : i = k
  · rw [e, he]; congr 1; omega
  · rw [h.2.2 i h0 (by omega)]; congr 1; omega
theorem isBord_zero {s : Bytes} {n : Int} (hn : 1 ≤ n) : isBord s n 0 := ⟨by omega, by omega, fun i h0 h1 => by omega⟩

theorem bord_take {s : Bytes} {n k : Int} (h0 : 0 ≤ k) (h1 : k < n) (h2 : n ≤ s.length) : List.drop (Int.toNat 0) (List.take k.toNat s) = List.drop (n - k).toNat (List.take n.toNat s) ↔ isBord s n k := by
  have e0 : List.drop (Int.toNat 0) (List.take k.toNat s) = List.take k.toNat s := by simp
  rw [e0]
  have l1 : (List.take k.toNat s).length = k := by simp; omega
  have l2 : (List.drop (n - k).toNat (List.take n.toNat s)).length = k := by simp; omega
  have g1 : ∀ i, 0 ≤ i → i < k → gt (List.take k.toNat s) i = gt s i := fun i i0 i1 => gt_take i0 (by omega)
  have g2 : ∀ i, 0 ≤ i → i < k → gt (List.drop (n - k).toNat (List.take n.toNat s)) i = gt s (n - k + i) := fun i i0 i1 => by
    rw [gt_drop i0, gt_take (by omega) (by omega)]
    congr 1
    omega
  constructor
  · intro h
    refine ⟨h0, h1, fun i i0 i1 => ?_⟩
    rw [← g1 i i0 i1, h, g2 i i0 i1]
  · intro h
    refine ext_gt (by omega) fun i i0 i1 => ?_
    rw [g1 i i0 (by omega), g2 i i0 (by omega)]
    exact h.2.2 i i0 (by omega)

theorem borders_len (s : Bytes) : (borders s).length = s.length := by simp [borders]
theorem borders_gt {s : Bytes} {i : Int} (h0 : 0 ≤ i) (h1 : i < s.length) : gt (borders s) i = bord s (i + 1) := by
  rw [gt_in h0 (by rw [borders_len]; exact h1)]
  simp only [borders, List.getElem_map, List.getElem_range]
  congr 1
  omega
end Go.Fu
