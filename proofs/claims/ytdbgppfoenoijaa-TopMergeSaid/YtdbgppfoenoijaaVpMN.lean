/-
  Merging: a part at a time; how many lines.
-/
import Derived.Test.YtdbgppfoenoijaaVpMM
set_option linter.unusedVariables false
set_option linter.unusedSimpArgs false
namespace Go.Fu
open Go.Vc
theorem hunks_few (base other : Lines) : (hunksOf base other).length ≤ base.length + other.length ∧ ∀ h ∈ hunksOf base other, h.2.2.length ≤ other.length := by
  obtain ⟨e1, e2⟩ := hSteps_end base other
  have h : HB ((stepsOf (wayKinds base other)).foldl (hStep other) hStart) := HB.start.steps _
  rw [hunksOf_steps]
  have := h.few
  exact ⟨by omega, fun g hg => by have := h.ls g hg; omega⟩
/-- What a part comes to, by its hunks; whether it clashes. -/
def partF (base : Lines) (lo hi : Nat) (x y : List Hunk) : Lines := if y = [] ∨ mkL base lo hi x = mkL base lo hi y then mkL base lo hi x else if x = [] then mkL base lo hi y else clashed (mkL base lo hi x) (mkL base lo hi y)
def partC (base : Lines) (lo hi : Nat) (x y : List Hunk) : Nat := if y = [] ∨ mkL base lo hi x = mkL base lo hi y then 0 else if x = [] then 0 else 1
abbrev Cl := List Hunk × List Hunk × List Hunk × List Hunk × Nat
theorem mergeF_step {base : Lines} {k at_ : Nat} {A B : List Hunk} {c : Cl} (hc : c = closeF (A.length + B.length + 1) (firstLo A B) A B) (h : ¬ (A = [] ∧ B = [])) :
    mergeF base (k + 1) at_ A B = ((base.take (firstLo A B)).drop at_ ++ partF base (firstLo A B) c.2.2.2.2 c.1 c.2.1 ++ (mergeF base k c.2.2.2.2 c.2.2.1 c.2.2.2.1).1, partC base (firstLo A B) c.2.2.2.2 c.1 c.2.1 + (mergeF base k c.2.2.2.2 c.2.2.1 c.2.2.2.1).2) := by
  subst hc
  rw [mergeF, if_neg h]
  rfl
theorem mergeF_end {base : Lines} {k at_ : Nat} : mergeF base (k + 1) at_ [] [] = (base.drop at_, 0) := by rw [mergeF, if_pos ⟨rfl, rfl⟩]
/-- The places of a part. -/
theorem part_ok {n at_ : Nat} {A B : List Hunk} {c : Cl} (hc : c = closeF (A.length + B.length + 1) (firstLo A B) A B) (h : ¬ (A = [] ∧ B = [])) (hn : n ≤ 80) (hA : HOk n at_ A) (hB : HOk n at_ B) :
    at_ ≤ firstLo A B ∧ firstLo A B ≤ c.2.2.2.2 ∧ c.2.2.2.2 ≤ n ∧ HOk c.2.2.2.2 (firstLo A B) c.1 ∧ HOk c.2.2.2.2 (firstLo A B) c.2.1 ∧ HOk n c.2.2.2.2 c.2.2.1 ∧ HOk n c.2.2.2.2 c.2.2.2.1 ∧ c.1.length + c.2.1.length ≠ 0 := by
  have aA := HOk.all hA
  have aB := HOk.all hB
  have f : firstLo A B ≤ n ∧ at_ ≤ firstLo A B ∧ (∀ g ∈ A, firstLo A B ≤ g.1) ∧ (∀ g ∈ B, firstLo A B ≤ g.1) ∧ ((∃ g r, A = g :: r ∧ g.1 = firstLo A B) ∨ ∃ g r, B = g :: r ∧ g.1 = firstLo A B) := by
    rcases A with _ | ⟨a, A⟩ <;> rcases B with _ | ⟨b, B⟩
    · exact absurd ⟨rfl, rfl⟩ h
    · have := aB b (List.mem_cons_self ..)
      have q := HOk.all hB.2.2.2
      refine ⟨by simp only [firstLo]; omega, by simp only [firstLo]; omega, fun g hg => (by cases hg), fun g hg => ?_, .inr ⟨b, B, rfl, rfl⟩⟩
      rcases List.mem_cons.1 hg with rfl | hg
      · exact Nat.le_refl _
      · have := q g hg; simp only [firstLo]; omega
    · have := aA a (List.mem_cons_self ..)
      have q := HOk.all hA.2.2.2
      refine ⟨by simp only [firstLo]; omega, by simp only [firstLo]; omega, fun g hg => ?_, fun g hg => (by cases hg), .inl ⟨a, A, rfl, rfl⟩⟩
      rcases List.mem_cons.1 hg with rfl | hg
      · exact Nat.le_refl _
      · have := q g hg; simp only [firstLo]; omega
    · have h1 := aA a (List.mem_cons_self ..)
      have h2 := aB b (List.mem_cons_self ..)
      have q1 := HOk.all hA.2.2.2
      have q2 := HOk.all hB.2.2.2
      refine ⟨by simp only [firstLo]; omega, by simp only [firstLo]; omega, fun g hg => ?_, fun g hg => ?_, ?_⟩
      · rcases List.mem_cons.1 hg with rfl | hg
        · simp only [firstLo]; omega
        · have := q1 g hg; simp only [firstLo]; omega
      · rcases List.mem_cons.1 hg with rfl | hg
        · simp only [firstLo]; omega
        · have := q2 g hg; simp only [firstLo]; omega
      · by_cases z : a.1 ≤ b.1
        · exact .inl ⟨a, A, rfl, by simp only [firstLo]; omega⟩
        · exact .inr ⟨b, B, rfl, by simp only [firstLo]; omega⟩
  obtain ⟨f1, f2, f3, f4, f5⟩ := f
  have cl := close_ok (n := n) (A.length + B.length + 1) (firstLo A B) A B at_ at_ (by omega) hA hB f1
  rw [← hc] at cl
  have rA : HOk n at_ c.2.2.1 := by
    have : HOk n at_ (c.1 ++ c.2.2.1) := by rw [cl.a]; exact hA
    exact HOk.drop this
  have rB : HOk n at_ c.2.2.2.1 := by
    have : HOk n at_ (c.2.1 ++ c.2.2.2.1) := by rw [cl.b]; exact hB
    exact HOk.drop this
  refine ⟨f2, cl.le, cl.top, cl.x _ (hA.up f3), cl.y _ (hB.up f4), rA.up fun g hg => by have := cl.resta g hg; omega, rB.up fun g hg => by have := cl.restb g hg; omega, fun z => ?_⟩
  have z1 : c.1 = [] := List.length_eq_zero_iff.1 (by omega)
  have z2 : c.2.1 = [] := List.length_eq_zero_iff.1 (by omega)
  have eA := cl.a
  have eB := cl.b
  rw [z1, List.nil_append] at eA
  rw [z2, List.nil_append] at eB
  have le := cl.le
  rcases f5 with ⟨g, r, e, q⟩ | ⟨g, r, e, q⟩
  · have := cl.resta g (by rw [eA, e]; exact List.mem_cons_self ..)
    omega
  · have := cl.restb g (by rw [eB, e]; exact List.mem_cons_self ..)
    omega
theorem partF_len {base : Lines} {lo hi n : Nat} {x y : List Hunk} (hx : (mkL base lo hi x).length ≤ n) (hy : (mkL base lo hi y).length ≤ n) : (partF base lo hi x y).length ≤ 2 * n + 3 := by
  unfold partF
  split
  · omega
  split
  · omega
  · simp only [clashed, List.length_append, List.length_singleton]; omega
theorem linesFault_iff (ls : List Lines) : (linesFault ls = 0 ∨ linesFault ls = 1) ∧ (linesFault ls = 1 ↔ ∃ l ∈ ls, 80 < l.length ∨ ∃ s ∈ l, 600 < s.length) := by
  unfold linesFault
  split
  · rename_i h; exact ⟨.inr rfl, fun _ => h, fun _ => rfl⟩
  · rename_i h; exact ⟨.inl rfl, fun q => (by cases q), fun q => absurd q h⟩
end Go.Fu
