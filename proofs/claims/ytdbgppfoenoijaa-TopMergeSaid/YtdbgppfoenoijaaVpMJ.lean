/-
  Merging: from the steps of the way to hunks, and to gaps.
-/
import Derived.Test.YtdbgppfoenoijaaVpMI
set_option linter.unusedVariables false
set_option linter.unusedSimpArgs false
namespace Go.Fu
def modLast (f : Hunk → Hunk) : List Hunk → List Hunk
  | [] => []
  | [h] => [f h]
  | h :: g :: l => h :: modLast f (g :: l)
theorem modLast_snoc (f : Hunk → Hunk) (h : Hunk) : ∀ l : List Hunk, modLast f (l ++ [h]) = l ++ [f h]
  | [] => rfl
  | [a] => rfl
  | a :: b :: l => by
    show a :: modLast f (b :: l ++ [h]) = _
    rw [modLast_snoc f h (b :: l)]; rfl
structure HS where
  at_ : Nat
  to : Nat
  kept : Bool
  out : List Hunk
def hOpened (s : HS) : List Hunk := if s.kept then s.out ++ [(s.at_, s.at_, [])] else s.out
/-- One step of one line, as the hunks see it. -/
def hUnit (other : Lines) (s : HS) (k : Int) : HS :=
  if k = 1 then ⟨s.at_ + 1, s.to + 1, true, s.out⟩
  else if k = 2 then ⟨s.at_ + 1, s.to, false, modLast (fun h => (h.1, s.at_ + 1, h.2.2)) (hOpened s)⟩
  else ⟨s.at_, s.to + 1, false, modLast (fun h => (h.1, h.2.1, h.2.2 ++ [other.getD s.to []])) (hOpened s)⟩
structure TS where
  at_ : Nat
  to : Nat
  t : Tch
/-- .. and as the rule sees it. -/
def tUnit (other : Lines) (s : TS) (k : Int) : TS :=
  if k = 1 then ⟨s.at_ + 1, s.to + 1, s.t⟩
  else if k = 2 then ⟨s.at_ + 1, s.to, ⟨fun i => if i = s.at_ ∨ i = s.at_ + 1 then true else s.t.gap i, fun i => if i = s.at_ then true else s.t.gone i, s.t.put⟩⟩
  else ⟨s.at_, s.to + 1, ⟨fun i => if i = s.at_ then true else s.t.gap i, s.t.gone, fun i => if i = s.at_ then s.t.put i ++ [other.getD s.to []] else s.t.put i⟩⟩
theorem seg_congr {base : Lines} {t t' : Tch} {a : Nat} : ∀ (k : Nat), (∀ i, a ≤ i → i < a + k → t'.gone i = t.gone i) → (∀ i, a < i → i ≤ a + k → t'.put i = t.put i) → seg base t' a k = seg base t a k
  | 0, _, _ => rfl
  | k + 1, h1, h2 => by
    simp only [seg, cell]
    rw [seg_congr k (fun i a1 a2 => h1 i a1 (by omega)) (fun i a1 a2 => h2 i a1 (by omega)), h1 (a + k) (by omega) (by omega), h2 (a + k + 1) (by omega) (by omega)]
theorem mk1_congr {base : Lines} {t t' : Tch} {lo hi : Nat} (hl : lo ≤ hi) (h1 : ∀ i, lo ≤ i → i < hi → t'.gone i = t.gone i) (h2 : ∀ i, lo ≤ i → i ≤ hi → t'.put i = t.put i) : mk1 base t' lo hi = mk1 base t lo hi := by
  unfold mk1
  rw [seg_congr (hi - lo) (fun i a1 a2 => h1 i a1 (by omega)) (fun i a1 a2 => h2 i (by omega) (by omega)), h2 lo (Nat.le_refl _) hl]
theorem mk1_more {base : Lines} {t t' : Tch} {lo hi : Nat} {o : Lines} (hl : lo ≤ hi) (h1 : ∀ i, lo ≤ i → i < hi → t'.gone i = t.gone i) (h2 : ∀ i, lo ≤ i → i < hi → t'.put i = t.put i) (h3 : t'.put hi = t.put hi ++ o) : mk1 base t' lo hi = mk1 base t lo hi ++ o := by
  by_cases e : lo = hi
  · subst e; unfold mk1; simp [seg, h3]
  · obtain ⟨k, rfl⟩ : ∃ k, hi = lo + (k + 1) := ⟨hi - lo - 1, by omega⟩
    unfold mk1
    rw [show lo + (k + 1) - lo = k + 1 by omega]
    simp only [seg, cell]
    rw [seg_congr k (fun i a1 a2 => h1 i a1 (by omega)) (fun i a1 a2 => h2 i (by omega) (by omega)), h2 lo (Nat.le_refl _) (by omega), h1 (lo + k) (by omega) (by omega), show lo + k + 1 = lo + (k + 1) by omega, h3]
    simp [List.append_assoc]
theorem HOk.wide {n m : Nat} (h : n ≤ m) : ∀ {l : List Hunk} {a : Nat}, HOk n a l → HOk m a l
  | [], a, _ => trivial
  | g :: l, a, ⟨g1, g2, g3, g4⟩ => ⟨g1, g2, by omega, HOk.wide h g4⟩
theorem HOk.snoc {n : Nat} {h : Hunk} (h1 : h.1 ≤ h.2.1) (h2 : h.2.1 ≤ n) : ∀ {l : List Hunk} {a : Nat}, HOk n a l → (∀ g ∈ l, g.2.1 < h.1) → a ≤ h.1 → HOk n a (l ++ [h])
  | [], a, _, _, ha => ⟨ha, h1, h2, trivial⟩
  | g :: l, a, ⟨g1, g2, g3, g4⟩, hg, ha => ⟨g1, g2, g3, HOk.snoc h1 h2 g4 (fun x hx => hg x (List.mem_cons_of_mem _ hx)) (hg g (List.mem_cons_self ..))⟩
theorem HOk.last {n : Nat} {h : Hunk} : ∀ {l : List Hunk} {a : Nat}, HOk n a (l ++ [h]) → HOk n a l ∧ (∀ g ∈ l, g.2.1 < h.1) ∧ h.1 ≤ h.2.1 ∧ h.2.1 ≤ n ∧ a ≤ h.1
  | [], a, ⟨g1, g2, g3, _⟩ => ⟨trivial, (fun g hg => by cases hg), g2, g3, g1⟩
  | x :: l, a, ⟨g1, g2, g3, g4⟩ => by
    obtain ⟨k1, k2, k3, k4, k5⟩ := HOk.last g4
    refine ⟨⟨g1, g2, g3, k1⟩, fun g hg => ?_, k3, k4, by omega⟩
    rcases List.mem_cons.1 hg with rfl | hg
    · omega
    · exact k2 g hg
/-- Both folds go side by side. -/
structure MInv (base : Lines) (s : HS) (u : TS) : Prop where
  at_ : u.at_ = s.at_
  to : u.to = s.to
  ok : HOk s.at_ 0 s.out
  kept : s.kept = true → ∀ h ∈ s.out, h.2.1 < s.at_
  open_ : s.kept = false → ∃ l h, s.out = l ++ [h] ∧ h.2.1 = s.at_
  says : Says s.at_ base s.out u.t
theorem MInv.start (base : Lines) : MInv base ⟨0, 0, true, []⟩ ⟨0, 0, ⟨fun _ => false, fun _ => false, fun _ => []⟩⟩ :=
  ⟨rfl, rfl, trivial, (fun _ h hh => by cases hh), (fun h => by cases h), ⟨(fun i => by simp), (fun i => by simp), fun i _ => rfl, (fun h hh => by cases hh)⟩⟩
/-- The last hunk open, or a new one that is empty. -/
theorem MInv.opened {base : Lines} {s : HS} {u : TS} (i : MInv base s u) : ∃ l h, hOpened s = l ++ [h] ∧ h.2.1 = s.at_ ∧ HOk s.at_ 0 l ∧ (∀ g ∈ l, g.2.1 < h.1) ∧ h.1 ≤ s.at_ ∧ (∀ g ∈ l, mk1 base u.t g.1 g.2.1 = g.2.2) ∧ mk1 base u.t h.1 h.2.1 = h.2.2 ∧
    (∀ j, u.t.gone j = true ↔ ∃ g ∈ l ++ [h], g.1 ≤ j ∧ j < g.2.1) ∧ (∀ j, j ≠ s.at_ → (u.t.gap j = true ↔ ∃ g ∈ l ++ [h], g.1 ≤ j ∧ j ≤ g.2.1)) ∧ (∀ j, (∀ g ∈ l ++ [h], ¬ (g.1 ≤ j ∧ j ≤ g.2.1)) → u.t.put j = []) := by
  unfold hOpened
  cases hk : s.kept with
  | true =>
    have kp := i.kept hk
    refine ⟨s.out, (s.at_, s.at_, []), by simp, rfl, i.ok, kp, Nat.le_refl _, i.says.put, ?_, fun j => ?_, fun j hj => ?_, fun j hj => i.says.none j fun g hg => hj g (List.mem_append_left _ hg)⟩
    · unfold mk1; rw [Nat.sub_self]; simp only [seg, List.append_nil]
      exact i.says.none _ fun g hg q => by have := kp g hg; omega
    · rw [i.says.gone]
      constructor
      · rintro ⟨g, hg, q⟩; exact ⟨g, List.mem_append_left _ hg, q⟩
      · rintro ⟨g, hg, q⟩
        rcases List.mem_append.1 hg with hg | hg
        · exact ⟨g, hg, q⟩
        · simp at hg; subst hg; exact absurd q (by simp only; omega)
    · rw [i.says.gap]
      constructor
      · rintro ⟨g, hg, q⟩; exact ⟨g, List.mem_append_left _ hg, q⟩
      · rintro ⟨g, hg, q⟩
        rcases List.mem_append.1 hg with hg | hg
        · exact ⟨g, hg, q⟩
        · simp at hg; subst hg; exact absurd q (by simp only; omega)
  | false =>
    obtain ⟨l, h, e, he⟩ := i.open_ hk
    have ok := i.ok
    have sy := i.says
    rw [e] at ok sy
    obtain ⟨k1, k2, k3, k4, k5⟩ := HOk.last ok
    exact ⟨l, h, by simp [e], he, k1, k2, by omega, fun g hg => sy.put g (List.mem_append_left _ hg), sy.put h (by simp), sy.gone, fun j _ => sy.gap j, sy.none⟩
theorem MInv.step {base other : Lines} {s : HS} {u : TS} (i : MInv base s u) (k : Int) : MInv base (hUnit other s k) (tUnit other u k) := by
  unfold hUnit tUnit
  by_cases k1 : k = 1
  · rw [if_pos k1, if_pos k1]
    have all := HOk.all i.ok
    exact ⟨by show u.at_ + 1 = _; rw [i.at_], by show u.to + 1 = _; rw [i.to], i.ok.wide (Nat.le_succ _), fun _ h hh => by have := all h hh; show h.2.1 < s.at_ + 1; omega, (fun h => by cases h), ⟨i.says.gap, i.says.gone, i.says.none, i.says.put⟩⟩
  rw [if_neg k1, if_neg k1]
  obtain ⟨l, h, e, he, ok, lt, hle, pl, ph, pg, pp, pn⟩ := i.opened
  obtain ⟨ut, uo⟩ := (⟨i.at_, i.to⟩ : _ ∧ _)
  have lall := HOk.all ok
  by_cases k2 : k = 2
  · rw [if_pos k2, if_pos k2, e, modLast_snoc]
    have okn : HOk (s.at_ + 1) 0 (l ++ [(h.1, s.at_ + 1, h.2.2)]) := HOk.snoc (h := (h.1, s.at_ + 1, h.2.2)) (by simp only; omega) (Nat.le_refl _) (ok.wide (Nat.le_succ _)) lt (Nat.zero_le _)
    refine ⟨by show u.at_ + 1 = _; rw [ut], uo, okn, (fun q => by cases q), fun _ => ⟨l, _, rfl, rfl⟩, ⟨fun j => ?_, fun j => ?_, fun j hj => ?_, fun g hg => ?_⟩⟩
    · show (if j = u.at_ ∨ j = u.at_ + 1 then true else u.t.gap j) = true ↔ _
      rw [ut]
      by_cases c : j = s.at_ ∨ j = s.at_ + 1
      · rw [if_pos c]
        exact ⟨fun _ => ⟨_, List.mem_append_right _ (List.mem_singleton.2 rfl), by simp only; omega, by simp only; omega⟩, fun _ => rfl⟩
      · rw [if_neg c, pp j (by omega)]
        constructor
        · rintro ⟨g, hg, q1, q2⟩
          rcases List.mem_append.1 hg with hg | hg
          · exact ⟨g, List.mem_append_left _ hg, q1, q2⟩
          · simp at hg; subst hg; exact ⟨_, List.mem_append_right _ (List.mem_singleton.2 rfl), q1, by simp only; omega⟩
        · rintro ⟨g, hg, q1, q2⟩
          rcases List.mem_append.1 hg with hg | hg
          · exact ⟨g, List.mem_append_left _ hg, q1, q2⟩
          · simp at hg; subst hg; simp only at q1 q2; exact ⟨h, List.mem_append_right _ (List.mem_singleton.2 rfl), q1, by omega⟩
    · show (if j = u.at_ then true else u.t.gone j) = true ↔ _
      rw [ut]
      by_cases c : j = s.at_
      · rw [if_pos c]
        exact ⟨fun _ => ⟨_, List.mem_append_right _ (List.mem_singleton.2 rfl), by simp only; omega, by simp only; omega⟩, fun _ => rfl⟩
      · rw [if_neg c, pg j]
        constructor
        · rintro ⟨g, hg, q1, q2⟩
          rcases List.mem_append.1 hg with hg | hg
          · exact ⟨g, List.mem_append_left _ hg, q1, q2⟩
          · simp at hg; subst hg; exact ⟨_, List.mem_append_right _ (List.mem_singleton.2 rfl), q1, by simp only; omega⟩
        · rintro ⟨g, hg, q1, q2⟩
          rcases List.mem_append.1 hg with hg | hg
          · exact ⟨g, List.mem_append_left _ hg, q1, q2⟩
          · simp at hg; subst hg; simp only at q1 q2; exact ⟨h, List.mem_append_right _ (List.mem_singleton.2 rfl), q1, by omega⟩
    · refine pn j fun g hg q => ?_
      rcases List.mem_append.1 hg with hg | hg
      · exact hj g (List.mem_append_left _ hg) q
      · simp at hg; subst hg; exact hj _ (List.mem_append_right _ (List.mem_singleton.2 rfl)) ⟨q.1, by simp only; omega⟩
    · rcases List.mem_append.1 hg with hg | hg
      · have := lall g hg
        have := lt g hg
        rw [← pl g hg]
        exact mk1_congr (by omega) (fun j j1 j2 => if_neg (by omega)) fun _ _ _ => rfl
      · simp at hg; subst hg
        have hz : u.t.put (s.at_ + 1) = [] := pn _ fun g hg q => by
          rcases List.mem_append.1 hg with hg | hg
          · have := lall g hg; omega
          · simp at hg; subst hg; omega
        have key : ∀ T' : Tch, (∀ j, j ≠ s.at_ → T'.gone j = u.t.gone j) → T'.gone s.at_ = true → T'.put = u.t.put → mk1 base T' h.1 (s.at_ + 1) = h.2.2 := by
          intro T' g1 g2 g3
          have es : seg base T' h.1 (s.at_ - h.1) = seg base u.t h.1 (s.at_ - h.1) := seg_congr _ (fun j j1 j2 => g1 j (by omega)) fun j _ _ => by rw [g3]
          rw [← ph, he]
          unfold mk1
          rw [show s.at_ + 1 - h.1 = (s.at_ - h.1) + 1 by omega]
          simp only [seg, cell]
          rw [show h.1 + (s.at_ - h.1) = s.at_ by omega, if_pos g2, g3, hz, es]
          simp
        exact key _ (fun j hj => if_neg (by rw [ut]; exact hj)) (if_pos ut.symm) rfl
  · rw [if_neg k2, if_neg k2, e, modLast_snoc]
    have okn : HOk s.at_ 0 (l ++ [(h.1, h.2.1, h.2.2 ++ [other.getD s.to []])]) := HOk.snoc (h := (h.1, h.2.1, h.2.2 ++ [other.getD s.to []])) (by simp only; omega) (by simp only; omega) ok lt (Nat.zero_le _)
    refine ⟨ut, by show u.to + 1 = _; rw [uo], okn, (fun q => by cases q), fun _ => ⟨l, _, rfl, he⟩, ⟨fun j => ?_, fun j => ?_, fun j hj => ?_, fun g hg => ?_⟩⟩
    · show (if j = u.at_ then true else u.t.gap j) = true ↔ _
      rw [ut]
      by_cases c : j = s.at_
      · rw [if_pos c]
        exact ⟨fun _ => ⟨_, List.mem_append_right _ (List.mem_singleton.2 rfl), by simp only; omega, by simp only; omega⟩, fun _ => rfl⟩
      · rw [if_neg c, pp j c]
        constructor
        · rintro ⟨g, hg, q1, q2⟩
          rcases List.mem_append.1 hg with hg | hg
          · exact ⟨g, List.mem_append_left _ hg, q1, q2⟩
          · simp at hg; subst hg; exact ⟨_, List.mem_append_right _ (List.mem_singleton.2 rfl), q1, q2⟩
        · rintro ⟨g, hg, q1, q2⟩
          rcases List.mem_append.1 hg with hg | hg
          · exact ⟨g, List.mem_append_left _ hg, q1, q2⟩
          · simp at hg; subst hg; exact ⟨h, List.mem_append_right _ (List.mem_singleton.2 rfl), q1, q2⟩
    · show u.t.gone j = true ↔ _
      rw [pg j]
      constructor
      · rintro ⟨g, hg, q1, q2⟩
        rcases List.mem_append.1 hg with hg | hg
        · exact ⟨g, List.mem_append_left _ hg, q1, q2⟩
        · simp at hg; subst hg; exact ⟨_, List.mem_append_right _ (List.mem_singleton.2 rfl), q1, q2⟩
      · rintro ⟨g, hg, q1, q2⟩
        rcases List.mem_append.1 hg with hg | hg
        · exact ⟨g, List.mem_append_left _ hg, q1, q2⟩
        · simp at hg; subst hg; exact ⟨h, List.mem_append_right _ (List.mem_singleton.2 rfl), q1, q2⟩
    · have hne : ¬ j = u.at_ := fun c => hj _ (List.mem_append_right _ (List.mem_singleton.2 rfl)) ⟨by simp only; omega, by simp only; omega⟩
      show (if j = u.at_ then _ else u.t.put j) = []
      rw [if_neg hne]
      refine pn j fun g hg q => ?_
      rcases List.mem_append.1 hg with hg | hg
      · exact hj g (List.mem_append_left _ hg) q
      · simp at hg; subst hg; exact hj _ (List.mem_append_right _ (List.mem_singleton.2 rfl)) q
    · rcases List.mem_append.1 hg with hg | hg
      · have := lall g hg
        have := lt g hg
        rw [← pl g hg]
        exact mk1_congr (by omega) (fun _ _ _ => rfl) fun j j1 j2 => if_neg (by omega)
      · simp at hg; subst hg
        show mk1 base _ h.1 h.2.1 = h.2.2 ++ [other.getD s.to []]
        rw [← ph]
        refine mk1_more (by omega) (fun _ _ _ => rfl) (fun j j1 j2 => if_neg (by omega)) ?_
        show (if h.2.1 = u.at_ then _ else _) = _
        rw [if_pos (by omega), uo]
theorem MInv.run {base other : Lines} : ∀ (l : List Int) {s : HS} {u : TS}, MInv base s u → MInv base (l.foldl (hUnit other) s) (l.foldl (tUnit other) u)
  | [], s, u, i => i
  | k :: l, s, u, i => MInv.run l (i.step k)
end Go.Fu
