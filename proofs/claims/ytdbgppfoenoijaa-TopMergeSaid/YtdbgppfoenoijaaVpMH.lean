/-
  Merging: parts. Which hunks stand together; where a part ends.
-/
import Derived.Test.YtdbgppfoenoijaaVpMG
set_option linter.unusedVariables false
set_option linter.unusedSimpArgs false
namespace Go.Fu
/-- Hunks that do not begin behind a place are taken. -/
def upTo : Nat → List Hunk → List Hunk × List Hunk × Nat
  | hi, [] => ([], [], hi)
  | hi, h :: l => if h.1 ≤ hi then (h :: (upTo (max hi h.2.1) l).1, (upTo (max hi h.2.1) l).2.1, (upTo (max hi h.2.1) l).2.2) else ([], h :: l, hi)
theorem upTo_split : ∀ (l : List Hunk) (hi : Nat), (upTo hi l).1 ++ (upTo hi l).2.1 = l
  | [], hi => rfl
  | h :: l, hi => by
    unfold upTo
    split
    · simp only [List.cons_append]; rw [upTo_split l]
    · rfl
theorem upTo_nil {l : List Hunk} {hi : Nat} (h : (upTo hi l).1 = []) : (upTo hi l).2.1 = l ∧ (upTo hi l).2.2 = hi ∧ ∀ g r, l = g :: r → hi < g.1 := by
  cases l with
  | nil => exact ⟨rfl, rfl, fun g r e => by cases e⟩
  | cons g l =>
    unfold upTo at h ⊢
    split
    · rename_i c; rw [if_pos c] at h; cases h
    · rename_i c; exact ⟨rfl, rfl, fun g' r e => by cases e; omega⟩
/-- What is taken of one side: it covers all up to where it goes. -/
theorem upTo_ok {n : Nat} : ∀ (l : List Hunk) (a hi : Nat), HOk n a l → hi ≤ n → hi ≤ (upTo hi l).2.2 ∧ (upTo hi l).2.2 ≤ n ∧ HOk (upTo hi l).2.2 a (upTo hi l).1 ∧ (∃ b, HOk n b (upTo hi l).2.1 ∧ a ≤ b ∧ ∀ h ∈ (upTo hi l).1, h.2.1 < b) ∧ (∀ i, hi ≤ i → i < (upTo hi l).2.2 → ∃ h ∈ (upTo hi l).1, h.1 ≤ i ∧ i < h.2.1)
  | [], a, hi, _, hn => ⟨Nat.le_refl _, hn, trivial, ⟨a, trivial, Nat.le_refl _, fun h hh => by cases hh⟩, fun i h1 h2 => by simp only [upTo] at h2; omega⟩
  | g :: l, a, hi, ⟨g1, g2, g3, g4⟩, hn => by
    unfold upTo
    split
    · rename_i c
      obtain ⟨k1, k2, k3, ⟨b, k4, k5, k6⟩, k7⟩ := upTo_ok l (g.2.1 + 1) (max hi g.2.1) g4 (by omega)
      refine ⟨by simp only; omega, k2, ⟨g1, g2, by simp only at *; omega, k3⟩, ⟨b, k4, by omega, fun h hh => ?_⟩, fun i i1 i2 => ?_⟩
      · rcases List.mem_cons.1 hh with rfl | hh
        · omega
        · exact k6 h hh
      · by_cases ci : i < g.2.1
        · exact ⟨g, List.mem_cons_self .., by omega, ci⟩
        · obtain ⟨h, hh, q⟩ := k7 i (by omega) i2
          exact ⟨h, List.mem_cons_of_mem _ hh, q⟩
    · exact ⟨Nat.le_refl _, hn, trivial, ⟨a, ⟨g1, g2, g3, g4⟩, Nat.le_refl _, fun h hh => by cases hh⟩, fun i i1 i2 => by simp only at i2; omega⟩
/-- Both sides in turn, as long as one is taken. -/
def closeF : Nat → Nat → List Hunk → List Hunk → List Hunk × List Hunk × List Hunk × List Hunk × Nat
  | 0, hi, A, B => ([], [], A, B, hi)
  | k + 1, hi, A, B =>
    if (upTo hi A).1 = [] ∧ (upTo (upTo hi A).2.2 B).1 = [] then ([], [], A, B, hi)
    else ((upTo hi A).1 ++ (closeF k (upTo (upTo hi A).2.2 B).2.2 (upTo hi A).2.1 (upTo (upTo hi A).2.2 B).2.1).1, (upTo (upTo hi A).2.2 B).1 ++ (closeF k (upTo (upTo hi A).2.2 B).2.2 (upTo hi A).2.1 (upTo (upTo hi A).2.2 B).2.1).2.1,
      (closeF k (upTo (upTo hi A).2.2 B).2.2 (upTo hi A).2.1 (upTo (upTo hi A).2.2 B).2.1).2.2)
theorem HOk.app {m : Nat} : ∀ {x y : List Hunk} {a b k : Nat}, HOk k a x → HOk m b y → k ≤ m → a ≤ b → (∀ h ∈ x, h.2.1 < b) → HOk m a (x ++ y)
  | [], y, a, b, k, _, hy, _, hb, _ => hy.mono hb
  | g :: x, y, a, b, k, ⟨g1, g2, g3, g4⟩, hy, hk, hb, hx => ⟨g1, g2, by omega, HOk.app g4 hy hk (by have := hx g (List.mem_cons_self ..); omega) fun h hh => hx h (List.mem_cons_of_mem _ hh)⟩
structure Closed (n lo : Nat) (A B : List Hunk) (r : List Hunk × List Hunk × List Hunk × List Hunk × Nat) : Prop where
  a : r.1 ++ r.2.2.1 = A
  b : r.2.1 ++ r.2.2.2.1 = B
  le : lo ≤ r.2.2.2.2
  top : r.2.2.2.2 ≤ n
  x : ∀ c, HOk n c A → HOk r.2.2.2.2 c r.1
  y : ∀ c, HOk n c B → HOk r.2.2.2.2 c r.2.1
  resta : ∀ h ∈ r.2.2.1, r.2.2.2.2 < h.1
  restb : ∀ h ∈ r.2.2.2.1, r.2.2.2.2 < h.1
  cover : ∀ i, lo ≤ i → i < r.2.2.2.2 → (∃ h ∈ r.1, h.1 ≤ i ∧ i < h.2.1) ∨ ∃ h ∈ r.2.1, h.1 ≤ i ∧ i < h.2.1
theorem HOk.all {n : Nat} : ∀ {l : List Hunk} {b : Nat}, HOk n b l → ∀ h ∈ l, b ≤ h.1 ∧ h.1 ≤ h.2.1 ∧ h.2.1 ≤ n
  | [], b, _, h, hh => by cases hh
  | x :: l, b, ⟨x1, x2, x3, x4⟩, h, hh => by
    rcases List.mem_cons.1 hh with rfl | hh
    · exact ⟨x1, x2, x3⟩
    · have := HOk.all x4 h hh; omega
theorem HOk.drop {n : Nat} : ∀ {x y : List Hunk} {a : Nat}, HOk n a (x ++ y) → HOk n a y
  | [], y, a, h => h
  | g :: x, y, a, ⟨g1, g2, g3, g4⟩ => (HOk.drop (x := x) g4).mono (by omega)
theorem HOk.tight {n m : Nat} : ∀ {x : List Hunk} {a : Nat}, HOk n a x → (∀ h ∈ x, h.2.1 ≤ m) → HOk m a x
  | [], a, _, _ => trivial
  | g :: x, a, ⟨g1, g2, g3, g4⟩, h => ⟨g1, g2, h g (List.mem_cons_self ..), HOk.tight g4 fun k hk => h k (List.mem_cons_of_mem _ hk)⟩
theorem HOk.front {n : Nat} : ∀ {x y : List Hunk} {a : Nat}, HOk n a (x ++ y) → HOk n a x
  | [], y, a, _ => trivial
  | g :: x, y, a, ⟨g1, g2, g3, g4⟩ => ⟨g1, g2, g3, HOk.front g4⟩
theorem close_ok {n : Nat} : ∀ (k hi : Nat) (A B : List Hunk) (ca cb : Nat), A.length + B.length < k → HOk n ca A → HOk n cb B → hi ≤ n → Closed n hi A B (closeF k hi A B)
  | 0, hi, A, B, ca, cb, h, _, _, _ => by omega
  | k + 1, hi, A, B, ca, cb, hk, hA, hB, hn => by
    obtain ⟨a1, a2, a3, ⟨ba, a4, a5, a6⟩, a7⟩ := upTo_ok A ca hi hA hn
    obtain ⟨b1, b2, b3, ⟨bb, b4, b5, b6⟩, b7⟩ := upTo_ok B cb (upTo hi A).2.2 hB a2
    have sa := upTo_split A hi
    have sb := upTo_split B (upTo hi A).2.2
    unfold closeF
    split
    · rename_i c
      obtain ⟨c1, c2⟩ := c
      obtain ⟨p1, p2, p3⟩ := upTo_nil c1
      obtain ⟨q1, q2, q3⟩ := upTo_nil c2
      rw [p2] at q3
      refine ⟨rfl, rfl, Nat.le_refl _, hn, fun _ _ => trivial, fun _ _ => trivial, fun h hh => ?_, fun h hh => ?_, fun i i1 i2 => by simp only at i2; omega⟩
      · cases A with
        | nil => cases hh
        | cons g A =>
          have := p3 g A rfl
          rcases List.mem_cons.1 hh with rfl | hh
          · exact this
          · have := HOk.all hA.2.2.2 h hh; have := hA.2.1; simp only; omega
      · cases B with
        | nil => cases hh
        | cons g B =>
          have := q3 g B rfl
          rcases List.mem_cons.1 hh with rfl | hh
          · exact this
          · have := HOk.all hB.2.2.2 h hh; have := hB.2.1; simp only; omega
    · rename_i c
      have hlen : (upTo hi A).2.1.length + (upTo (upTo hi A).2.2 B).2.1.length < k := by
        have e1 := congrArg List.length sa
        have e2 := congrArg List.length sb
        rw [List.length_append] at e1 e2
        have : 0 < (upTo hi A).1.length + (upTo (upTo hi A).2.2 B).1.length := by
          apply Classical.byContradiction
          intro z
          exact c ⟨List.eq_nil_of_length_eq_zero (by omega), List.eq_nil_of_length_eq_zero (by omega)⟩
        omega
      have ih := close_ok k (upTo (upTo hi A).2.2 B).2.2 (upTo hi A).2.1 (upTo (upTo hi A).2.2 B).2.1 ba bb hlen a4 b4 b2
      refine ⟨?_, ?_, ?_, ih.top, fun c' hc => ?_, fun c' hc => ?_, ih.resta, ih.restb, fun i i1 i2 => ?_⟩
      · show (upTo hi A).1 ++ _ ++ _ = A
        rw [List.append_assoc, ih.a, sa]
      · show (upTo (upTo hi A).2.2 B).1 ++ _ ++ _ = B
        rw [List.append_assoc, ih.b, sb]
      · have := ih.le; simp only; omega
      · have l1 := ih.le
        have hc' : HOk n c' ((upTo hi A).1 ++ ((closeF k (upTo (upTo hi A).2.2 B).2.2 (upTo hi A).2.1 (upTo (upTo hi A).2.2 B).2.1).1 ++ (closeF k (upTo (upTo hi A).2.2 B).2.2 (upTo hi A).2.1 (upTo (upTo hi A).2.2 B).2.1).2.2.1)) := by rw [ih.a, sa]; exact hc
        refine HOk.tight (n := n) (HOk.front (y := (closeF k (upTo (upTo hi A).2.2 B).2.2 (upTo hi A).2.1 (upTo (upTo hi A).2.2 B).2.1).2.2.1) (by rw [List.append_assoc]; exact hc')) fun h hh => ?_
        rcases List.mem_append.1 hh with hh | hh
        · have := (HOk.all a3 h hh).2.2; simp only; omega
        · exact (HOk.all (ih.x ba a4) h hh).2.2
      · have l1 := ih.le
        have hc' : HOk n c' ((upTo (upTo hi A).2.2 B).1 ++ ((closeF k (upTo (upTo hi A).2.2 B).2.2 (upTo hi A).2.1 (upTo (upTo hi A).2.2 B).2.1).2.1 ++ (closeF k (upTo (upTo hi A).2.2 B).2.2 (upTo hi A).2.1 (upTo (upTo hi A).2.2 B).2.1).2.2.2.1)) := by rw [ih.b, sb]; exact hc
        refine HOk.tight (n := n) (HOk.front (y := (closeF k (upTo (upTo hi A).2.2 B).2.2 (upTo hi A).2.1 (upTo (upTo hi A).2.2 B).2.1).2.2.2.1) (by rw [List.append_assoc]; exact hc')) fun h hh => ?_
        rcases List.mem_append.1 hh with hh | hh
        · have := (HOk.all b3 h hh).2.2; simp only; omega
        · exact (HOk.all (ih.y bb b4) h hh).2.2
      · by_cases c1 : i < (upTo hi A).2.2
        · obtain ⟨h, hh, q⟩ := a7 i i1 c1
          exact .inl ⟨h, List.mem_append_left _ hh, q⟩
        by_cases c2 : i < (upTo (upTo hi A).2.2 B).2.2
        · obtain ⟨h, hh, q⟩ := b7 i (by omega) c2
          exact .inr ⟨h, List.mem_append_left _ hh, q⟩
        · rcases ih.cover i (by omega) i2 with ⟨h, hh, q⟩ | ⟨h, hh, q⟩
          · exact .inl ⟨h, List.mem_append_right _ hh, q⟩
          · exact .inr ⟨h, List.mem_append_right _ hh, q⟩
end Go.Fu
