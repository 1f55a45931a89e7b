/-
  Merging: the way's steps, one by one.
-/
import Derived.Test.YtdbgppfoenoijaaVpMJ
set_option linter.unusedVariables false
set_option linter.unusedSimpArgs false
namespace Go.Fu
open Go.Vc
def flatS (l : List Step) : List Int := l.flatMap fun s => List.replicate s.2.toNat s.1
theorem flat_add {o : List Step} {k : Int} (h : ∀ s ∈ o, 0 ≤ s.2) : flatS (addStep o k) = flatS o ++ [k] ∧ ∀ s ∈ addStep o k, 0 ≤ s.2 := by
  rcases List.eq_nil_or_concat o with rfl | ⟨l, s, e⟩
  · simp [addStep, flatS]
  · rw [List.concat_eq_append] at e
    subst e
    have hg : gt (l ++ [s]) (((l ++ [s]).length : Int) - 1) = s := by
      rw [gt_in (by simp) (by omega)]
      simp
    have hs := h s (by simp)
    unfold addStep
    rw [hg]
    split
    · rename_i c
      have e2 : (l ++ [s]).set ((((l ++ [s]).length : Int) - 1).toNat) (s.1, s.2 + 1) = l ++ [(s.1, s.2 + 1)] := by
        have : (((l ++ [s]).length : Int) - 1).toNat = l.length := by simp
        rw [this]; simp
      rw [e2]
      refine ⟨?_, fun x hx => ?_⟩
      · simp only [flatS, List.flatMap_append, List.flatMap_cons, List.flatMap_nil, List.append_nil, List.append_assoc]
        rw [show (s.2 + 1).toNat = s.2.toNat + 1 by omega, List.replicate_succ', c.2]
      · rcases List.mem_append.1 hx with hx | hx
        · exact h x (List.mem_append_left _ hx)
        · simp at hx; subst hx; simp only; omega
    · refine ⟨by simp [flatS], fun x hx => ?_⟩
      rcases List.mem_append.1 hx with hx | hx
      · exact h x hx
      · simp at hx; subst hx; simp
theorem flat_steps (l : List Int) : flatS (stepsOf l) = l ∧ ∀ s ∈ stepsOf l, 0 ≤ s.2 := by
  have : ∀ (l : List Int) (o : List Step), (∀ s ∈ o, 0 ≤ s.2) → flatS (l.foldl addStep o) = flatS o ++ l ∧ ∀ s ∈ l.foldl addStep o, 0 ≤ s.2 := by
    intro l
    induction l with
    | nil => intro o h; exact ⟨by simp, h⟩
    | cons k l ih =>
      intro o h
      obtain ⟨h1, h2⟩ := flat_add (k := k) h
      obtain ⟨h3, h4⟩ := ih _ h2
      exact ⟨by rw [List.foldl_cons, h3, h1]; simp, h4⟩
  have := this l [] (fun s hs => by cases hs)
  exact ⟨this.1, this.2⟩
/-- The way ends where both lists end. -/
theorem way_ends (other : Lines) : ∀ (n : Nat) (a b : Lines) (s : HS), a.length + b.length ≤ n → ((wayKinds a b).foldl (hUnit other) s).at_ = s.at_ + a.length ∧ ((wayKinds a b).foldl (hUnit other) s).to = s.to + b.length := by
  intro n
  have u1 : ∀ s : HS, (hUnit other s 1).at_ = s.at_ + 1 ∧ (hUnit other s 1).to = s.to + 1 := fun s => ⟨rfl, rfl⟩
  have u2 : ∀ s : HS, (hUnit other s 2).at_ = s.at_ + 1 ∧ (hUnit other s 2).to = s.to := fun s => ⟨rfl, rfl⟩
  have u3 : ∀ s : HS, (hUnit other s 3).at_ = s.at_ ∧ (hUnit other s 3).to = s.to + 1 := fun s => ⟨rfl, rfl⟩
  induction n with
  | zero =>
    intro a b s h
    cases a with
    | cons x a => simp at h
    | nil => cases b with
      | cons y b => simp at h
      | nil => simp [wayKinds]
  | succ n ih =>
    intro a b s h
    cases a with
    | nil => cases b with
      | nil => simp [wayKinds]
      | cons y b =>
        rw [wayKinds, List.foldl_cons]
        obtain ⟨r1, r2⟩ := ih [] b (hUnit other s 3) (by simp at h ⊢; omega)
        rw [r1, r2, (u3 s).1, (u3 s).2]; simp; omega
    | cons x a => cases b with
      | nil =>
        rw [wayKinds, List.foldl_cons]
        obtain ⟨r1, r2⟩ := ih a [] (hUnit other s 2) (by simp at h ⊢; omega)
        rw [r1, r2, (u2 s).1, (u2 s).2]; simp; omega
      | cons y b =>
        rw [wayKinds]
        split
        · rw [List.foldl_cons]
          obtain ⟨r1, r2⟩ := ih a b (hUnit other s 1) (by simp at h ⊢; omega)
          rw [r1, r2, (u1 s).1, (u1 s).2]; simp; omega
        · split
          · rw [List.foldl_cons]
            obtain ⟨r1, r2⟩ := ih a (y :: b) (hUnit other s 2) (by simp at h ⊢; omega)
            rw [r1, r2, (u2 s).1, (u2 s).2]; simp; omega
          · rw [List.foldl_cons]
            obtain ⟨r1, r2⟩ := ih (x :: a) b (hUnit other s 3) (by simp at h ⊢; omega)
            rw [r1, r2, (u3 s).1, (u3 s).2]; simp; omega
def hStart : HS := ⟨0, 0, true, []⟩
def tStart : TS := ⟨0, 0, ⟨fun _ => false, fun _ => false, fun _ => []⟩⟩
/-- The hunks of the way; what the rule tells of the gaps. -/
def hunksOf (base other : Lines) : List Hunk := ((wayKinds base other).foldl (hUnit other) hStart).out
def touchOf (base other : Lines) : Tch := ((wayKinds base other).foldl (tUnit other) tStart).t
theorem hunks_say (base other : Lines) : HOk base.length 0 (hunksOf base other) ∧ Says base.length base (hunksOf base other) (touchOf base other) := by
  have i := MInv.run (other := other) (wayKinds base other) (MInv.start base)
  have e := (way_ends other _ base other hStart (Nat.le_refl _)).1
  have e : ((wayKinds base other).foldl (hUnit other) ⟨0, 0, true, []⟩).at_ = base.length := by
    have := e; unfold hStart at this; simpa using this
  have ok := i.ok
  have sy := i.says
  rw [e] at ok sy
  exact ⟨ok, sy⟩
/-- Both ways of merging. -/
theorem merge_both (base a b : Lines) : (mergeF base ((hunksOf base a).length + (hunksOf base b).length + 1) 0 (hunksOf base a) (hunksOf base b)) = ruleF base base.length (touchOf base a) (touchOf base b) (base.length + 1) 0 := by
  obtain ⟨oa, sa⟩ := hunks_say base a
  obtain ⟨ob, sb⟩ := hunks_say base b
  obtain ⟨h1, h2⟩ := merge_rule sa sb rfl (base.length + 1) ((hunksOf base a).length + (hunksOf base b).length + 1) 0 0 [] [] (hunksOf base a) (hunksOf base b) rfl rfl (fun h hh => by cases hh) (fun h hh => by cases hh) oa ob (by omega) (by omega) (Nat.le_refl _)
  exact Prod.ext (by rw [h1]; simp) h2
end Go.Fu
