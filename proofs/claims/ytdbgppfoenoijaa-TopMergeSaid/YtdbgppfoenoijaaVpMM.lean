/-
  Merging: whole steps, as the program and the rule take them; facts for the walks.
-/
import Derived.Test.YtdbgppfoenoijaaVpML
set_option linter.unusedVariables false
set_option linter.unusedSimpArgs false
namespace Go.Fu
open Go.Vc
theorem gt_snoc {A : Type} [Inhabited A] (l : List A) (x : A) : gt (l ++ [x]) (((l ++ [x]).length : Int) - 1) = x := by
  rw [gt_in (by simp) (by omega)]; simp
/-- Steps have a count of one at least, and kinds as they are. -/
theorem steps_pos {o : List Step} {k : Int} (hk : 1 ≤ k ∧ k ≤ 3) (h : ∀ s ∈ o, 1 ≤ s.2 ∧ 1 ≤ s.1 ∧ s.1 ≤ 3) : ∀ s ∈ addStep o k, 1 ≤ s.2 ∧ 1 ≤ s.1 ∧ s.1 ≤ 3 := by
  rcases List.eq_nil_or_concat o with rfl | ⟨l, s, e⟩
  · intro s hs
    simp [addStep] at hs
    subst hs; simp; omega
  · rw [List.concat_eq_append] at e
    subst e
    have hs := h s (by simp)
    unfold addStep
    rw [gt_snoc]
    split
    · rename_i c
      have e2 : (l ++ [s]).set ((((l ++ [s]).length : Int) - 1).toNat) (s.1, s.2 + 1) = l ++ [(s.1, s.2 + 1)] := by
        have : (((l ++ [s]).length : Int) - 1).toNat = l.length := by simp
        rw [this]; simp
      rw [e2]
      intro x hx
      rcases List.mem_append.1 hx with hx | hx
      · exact h x (List.mem_append_left _ hx)
      · simp at hx; subst hx; simp only; omega
    · intro x hx
      rcases List.mem_append.1 hx with hx | hx
      · exact h x hx
      · simp at hx; subst hx; simp; omega
theorem way_kinds : ∀ (n : Nat) (a b : Lines), a.length + b.length ≤ n → ∀ k ∈ wayKinds a b, 1 ≤ k ∧ k ≤ 3 := by
  intro n
  induction n with
  | zero =>
    intro a b h
    cases a with
    | cons x a => simp at h
    | nil => cases b with
      | cons y b => simp at h
      | nil => simp [wayKinds]
  | succ n ih =>
    intro a b h k hk
    cases a with
    | nil => cases b with
      | nil => simp [wayKinds] at hk
      | cons y b =>
        rw [wayKinds] at hk
        rcases List.mem_cons.1 hk with rfl | hk
        · omega
        · exact ih [] b (by simp at h ⊢; omega) k hk
    | cons x a => cases b with
      | nil =>
        rw [wayKinds] at hk
        rcases List.mem_cons.1 hk with rfl | hk
        · omega
        · exact ih a [] (by simp at h ⊢; omega) k hk
      | cons y b =>
        rw [wayKinds] at hk
        split at hk
        · rcases List.mem_cons.1 hk with rfl | hk
          · omega
          · exact ih a b (by simp at h ⊢; omega) k hk
        · split at hk
          · rcases List.mem_cons.1 hk with rfl | hk
            · omega
            · exact ih a (y :: b) (by simp at h ⊢; omega) k hk
          · rcases List.mem_cons.1 hk with rfl | hk
            · omega
            · exact ih (x :: a) b (by simp at h ⊢; omega) k hk
theorem way_steps (a b : Lines) : ∀ s ∈ stepsOf (wayKinds a b), 1 ≤ s.2 ∧ 1 ≤ s.1 ∧ s.1 ≤ 3 := by
  have : ∀ (l : List Int) (o : List Step), (∀ k ∈ l, 1 ≤ k ∧ k ≤ 3) → (∀ s ∈ o, 1 ≤ s.2 ∧ 1 ≤ s.1 ∧ s.1 ≤ 3) → ∀ s ∈ l.foldl addStep o, 1 ≤ s.2 ∧ 1 ≤ s.1 ∧ s.1 ≤ 3 := by
    intro l
    induction l with
    | nil => intro o _ h; exact h
    | cons k l ih => intro o hk h; exact ih _ (fun x hx => hk x (List.mem_cons_of_mem _ hx)) (steps_pos (hk k (List.mem_cons_self ..)) h)
  exact this _ [] (way_kinds _ a b (Nat.le_refl _)) (fun s hs => by cases hs)
/-- A whole step. -/
def hStep (other : Lines) (s : HS) (p : Step) : HS := (List.replicate p.2.toNat p.1).foldl (hUnit other) s
theorem hunksOf_steps (base other : Lines) : hunksOf base other = ((stepsOf (wayKinds base other)).foldl (hStep other) hStart).out := by
  unfold hunksOf
  conv => lhs; rw [← (flat_steps (wayKinds base other)).1]
  unfold flatS
  rw [List.foldl_flatMap]
  rfl
theorem modLast_modLast (f g : Hunk → Hunk) : ∀ l : List Hunk, modLast g (modLast f l) = modLast (fun h => g (f h)) l
  | [] => rfl
  | [a] => rfl
  | a :: b :: l => by
    have := modLast_modLast f g (b :: l)
    cases l with
    | nil => rfl
    | cons c l =>
      show modLast g (a :: b :: modLast f (c :: l)) = _
      rw [show modLast g (a :: b :: modLast f (c :: l)) = a :: modLast g (b :: modLast f (c :: l)) by cases hm : modLast f (c :: l) <;> rfl]
      exact congrArg (a :: ·) this
theorem hOpened_of {s : HS} (h : s.kept = false) : hOpened s = s.out := by unfold hOpened; rw [h]; rfl
/-- Keep. -/
theorem hStep_keep (other : Lines) : ∀ (c : Nat) (s : HS), 0 < c → (List.replicate c (1 : Int)).foldl (hUnit other) s = ⟨s.at_ + c, s.to + c, true, s.out⟩
  | 0, s, h => by omega
  | 1, s, _ => rfl
  | c + 2, s, _ => by
    rw [List.replicate_succ, List.foldl_cons, hStep_keep other (c + 1) _ (by omega)]
    simp only [hUnit, if_pos]
    congr 1 <;> omega
/-- Drop. -/
theorem hStep_drop (other : Lines) : ∀ (c : Nat) (s : HS), 0 < c → (List.replicate c (2 : Int)).foldl (hUnit other) s = ⟨s.at_ + c, s.to, false, modLast (fun h => (h.1, s.at_ + c, h.2.2)) (hOpened s)⟩
  | 0, s, h => by omega
  | 1, s, _ => rfl
  | c + 2, s, _ => by
    rw [List.replicate_succ, List.foldl_cons, hStep_drop other (c + 1) _ (by omega)]
    have e : hUnit other s 2 = ⟨s.at_ + 1, s.to, false, modLast (fun h => (h.1, s.at_ + 1, h.2.2)) (hOpened s)⟩ := rfl
    rw [e, hOpened_of (s := ⟨s.at_ + 1, s.to, false, modLast (fun h => (h.1, s.at_ + 1, h.2.2)) (hOpened s)⟩) rfl]
    simp only [modLast_modLast]
    rw [show s.at_ + 1 + (c + 1) = s.at_ + (c + 2) by omega]
/-- Take. -/
theorem hStep_take (other : Lines) : ∀ (c : Nat) (s : HS), 0 < c → s.to + c ≤ other.length → (List.replicate c (3 : Int)).foldl (hUnit other) s = ⟨s.at_, s.to + c, false, modLast (fun h => (h.1, h.2.1, h.2.2 ++ (other.take (s.to + c)).drop s.to)) (hOpened s)⟩
  | 0, s, h, _ => by omega
  | 1, s, _, hl => by
    have e : (other.take (s.to + 1)).drop s.to = [other.getD s.to []] := by
      rw [List.take_add_one, List.getElem?_eq_getElem (by omega), List.drop_append_of_le_length (by rw [List.length_take]; omega)]
      simp [List.getD, List.getElem?_eq_getElem (show s.to < other.length by omega)]
    rw [e]; rfl
  | c + 2, s, _, hl => by
    rw [List.replicate_succ, List.foldl_cons]
    have e : hUnit other s 3 = ⟨s.at_, s.to + 1, false, modLast (fun h => (h.1, h.2.1, h.2.2 ++ [other.getD s.to []])) (hOpened s)⟩ := rfl
    rw [e, hStep_take other (c + 1) _ (by omega) (by simp only; omega), hOpened_of (s := ⟨s.at_, s.to + 1, false, modLast (fun h => (h.1, h.2.1, h.2.2 ++ [other.getD s.to []])) (hOpened s)⟩) rfl]
    simp only [modLast_modLast]
    have e2 : (other.take (s.to + (c + 2))).drop s.to = [other.getD s.to []] ++ (other.take (s.to + 1 + (c + 1))).drop (s.to + 1) := by
      rw [show s.to + 1 + (c + 1) = s.to + (c + 2) by omega]
      rw [List.drop_eq_getElem_cons (l := other.take (s.to + (c + 2))) (i := s.to) (by rw [List.length_take]; omega)]
      simp [List.getD, List.getElem?_eq_getElem (show s.to < other.length by omega)]
    rw [e2]
    simp only [List.append_assoc]
    rw [show s.to + 1 + (c + 1) = s.to + (c + 2) by omega]
/-- Places stay within both lists, step by step. -/
theorem hStep_to (other : Lines) (s : HS) (p : Step) (hp : 1 ≤ p.2 ∧ 1 ≤ p.1 ∧ p.1 ≤ 3) : (hStep other s p).to = s.to + (if p.1 = 2 then 0 else p.2.toNat) ∧ (hStep other s p).at_ = s.at_ + (if p.1 = 3 then 0 else p.2.toNat) := by
  have u : ∀ (c : Nat) (k : Int) (s : HS), 1 ≤ k → k ≤ 3 → ((List.replicate c k).foldl (hUnit other) s).to = s.to + (if k = 2 then 0 else c) ∧ ((List.replicate c k).foldl (hUnit other) s).at_ = s.at_ + (if k = 3 then 0 else c) := by
    intro c k
    induction c with
    | zero => intro s _ _; simp
    | succ c ih =>
      intro s h1 h2
      rw [List.replicate_succ, List.foldl_cons]
      obtain ⟨r1, r2⟩ := ih (hUnit other s k) h1 h2
      rw [r1, r2]
      rcases (by omega : k = 1 ∨ k = 2 ∨ k = 3) with rfl | rfl | rfl <;> simp [hUnit] <;> omega
  exact u _ _ s hp.2.1 hp.2.2
theorem hSteps_le (other : Lines) : ∀ (l : List Step) (s : HS), (∀ p ∈ l, 1 ≤ p.2 ∧ 1 ≤ p.1 ∧ p.1 ≤ 3) → s.to ≤ (l.foldl (hStep other) s).to ∧ s.at_ ≤ (l.foldl (hStep other) s).at_
  | [], s, _ => ⟨Nat.le_refl _, Nat.le_refl _⟩
  | p :: l, s, h => by
    obtain ⟨h1, h2⟩ := hSteps_le other l (hStep other s p) fun q hq => h q (List.mem_cons_of_mem _ hq)
    obtain ⟨h3, h4⟩ := hStep_to other s p (h p (List.mem_cons_self ..))
    rw [List.foldl_cons]
    omega
theorem hSteps_end (base other : Lines) : ((stepsOf (wayKinds base other)).foldl (hStep other) hStart).to = other.length ∧ ((stepsOf (wayKinds base other)).foldl (hStep other) hStart).at_ = base.length := by
  have e : (stepsOf (wayKinds base other)).foldl (hStep other) hStart = (wayKinds base other).foldl (hUnit other) hStart := by
    conv => rhs; rw [← (flat_steps (wayKinds base other)).1]
    unfold flatS
    rw [List.foldl_flatMap]
    rfl
  have := way_ends other _ base other hStart (Nat.le_refl _)
  rw [e, this.1, this.2]
  simp [hStart]
/-- Places on the way. -/
theorem way_place (base other : Lines) (j : Nat) {s : Step} (hj : (stepsOf (wayKinds base other))[j]? = some s) : (((stepsOf (wayKinds base other)).take j).foldl (hStep other) hStart).to + (if s.1 = 2 then 0 else s.2.toNat) ≤ other.length ∧ (((stepsOf (wayKinds base other)).take j).foldl (hStep other) hStart).at_ + (if s.1 = 3 then 0 else s.2.toNat) ≤ base.length ∧
    (((stepsOf (wayKinds base other)).take (j + 1)).foldl (hStep other) hStart) = hStep other (((stepsOf (wayKinds base other)).take j).foldl (hStep other) hStart) s := by
  have hp := way_steps base other
  have he := hSteps_end base other
  generalize stepsOf (wayKinds base other) = l at *
  have e1 : l.take (j + 1) = l.take j ++ [s] := by rw [List.take_add_one, hj]; rfl
  have e2 : (l.take (j + 1)).foldl (hStep other) hStart = hStep other ((l.take j).foldl (hStep other) hStart) s := by rw [e1, List.foldl_append]; rfl
  have h3 := hSteps_le other (l.drop (j + 1)) ((l.take (j + 1)).foldl (hStep other) hStart) fun p hq => hp p (List.mem_of_mem_drop hq)
  rw [← List.foldl_append, List.take_append_drop, he.1, he.2, e2] at h3
  obtain ⟨h4, h5⟩ := hStep_to other ((l.take j).foldl (hStep other) hStart) s (hp s (List.mem_of_getElem? hj))
  exact ⟨by omega, by omega, e2⟩
theorem hOpened_ne {base : Lines} {s : HS} {u : TS} (i : MInv base s u) : hOpened s ≠ [] := by
  obtain ⟨l, h, e, _⟩ := i.opened
  rw [e]; simp
/-- How many hunks, and how many lines in each. -/
structure HB (s : HS) : Prop where
  few : s.out.length ≤ s.at_ + s.to
  ls : ∀ h ∈ s.out, h.2.2.length ≤ s.to
  ne : s.kept = false → s.out ≠ []
theorem modLast_len (f : Hunk → Hunk) : ∀ l : List Hunk, (modLast f l).length = l.length
  | [] => rfl
  | [a] => rfl
  | a :: b :: l => by
    show (modLast f (b :: l)).length + 1 = _
    rw [modLast_len f (b :: l)]; rfl
theorem modLast_mem {f : Hunk → Hunk} : ∀ {l : List Hunk} {h : Hunk}, h ∈ modLast f l → h ∈ l ∨ ∃ g ∈ l, h = f g
  | [], h, hm => by cases hm
  | [a], h, hm => .inr ⟨a, List.mem_cons_self .., by simpa [modLast] using hm⟩
  | a :: b :: l, h, hm => by
    have hm : h ∈ a :: modLast f (b :: l) := hm
    rcases List.mem_cons.1 hm with rfl | hm
    · exact .inl (List.mem_cons_self ..)
    · rcases modLast_mem hm with q | ⟨g, q, e⟩
      · exact .inl (List.mem_cons_of_mem _ q)
      · exact .inr ⟨g, List.mem_cons_of_mem _ q, e⟩
theorem HB.opened {s : HS} (h : HB s) : (hOpened s).length ≤ s.at_ + s.to + 1 ∧ ∀ g ∈ hOpened s, g.2.2.length ≤ s.to := by
  have := h.few
  unfold hOpened
  split
  · refine ⟨by simp; omega, fun g hg => ?_⟩
    rcases List.mem_append.1 hg with hg | hg
    · exact h.ls g hg
    · simp at hg; subst hg; simp
  · exact ⟨by omega, h.ls⟩
theorem HB.open_ne {s : HS} (h : HB s) : hOpened s ≠ [] := by
  unfold hOpened
  split
  · simp
  · rename_i c; exact h.ne (by simpa using c)
theorem modLast_ne {f : Hunk → Hunk} {l : List Hunk} (h : l ≠ []) : modLast f l ≠ [] := fun e => h (List.length_eq_zero_iff.1 (by rw [← modLast_len f l, e]; rfl))
theorem HB.step {other : Lines} {s : HS} (h : HB s) (k : Int) : HB (hUnit other s k) := by
  obtain ⟨o1, o2⟩ := h.opened
  have := h.few
  unfold hUnit
  split
  · exact ⟨by simp only; omega, fun g hg => by have := h.ls g hg; simp only; omega, fun q => by cases q⟩
  split
  · refine ⟨by simp only [modLast_len]; omega, fun g hg => ?_, ?_⟩
    rotate_left
    · exact fun _ => modLast_ne h.open_ne
    rcases modLast_mem hg with q | ⟨x, q, rfl⟩
    · exact o2 g q
    · exact o2 x q
  · refine ⟨by simp only [modLast_len]; omega, fun g hg => ?_, ?_⟩
    rotate_left
    · exact fun _ => modLast_ne h.open_ne
    rcases modLast_mem hg with q | ⟨x, q, rfl⟩
    · have := o2 g q; simp only; omega
    · have := o2 x q; simp only [List.length_append, List.length_singleton]; omega
theorem HB.steps {other : Lines} : ∀ (l : List Step) {s : HS}, HB s → HB (l.foldl (hStep other) s)
  | [], s, h => h
  | p :: l, s, h => by
    have : ∀ (q : List Int) {s : HS}, HB s → HB (q.foldl (hUnit other) s) := by
      intro q
      induction q with
      | nil => intro s h; exact h
      | cons k q ih => intro s h; exact ih (h.step k)
    exact HB.steps l (this _ h)
theorem HB.start : HB hStart := ⟨by simp [hStart], fun h hh => (by cases hh), fun q => (by cases q)⟩
theorem way_few (a b : Lines) : (stepsOf (wayKinds a b)).length ≤ a.length + b.length := by
  have h1 := wayKinds_len (a.length + b.length) a b (Nat.le_refl _)
  have : ∀ (l : List Int) (o : List Step), (l.foldl addStep o).length ≤ o.length + l.length := by
    intro l
    induction l with
    | nil => intro o; simp
    | cons k l ih =>
      intro o
      have := ih (addStep o k)
      have h2 : (addStep o k).length ≤ o.length + 1 := by
        unfold addStep
        split <;> simp
      rw [List.foldl_cons]; simp only [List.length_cons]; omega
  have := this (wayKinds a b) []
  unfold stepsOf
  simp only [List.length_nil] at this; omega
end Go.Fu
