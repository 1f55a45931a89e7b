/-
  Merging: the hunks' way and the rule's way give the same.
-/
import Derived.Test.YtdbgppfoenoijaaVpMH
set_option linter.unusedVariables false
set_option linter.unusedSimpArgs false
namespace Go.Fu
def firstLo : List Hunk → List Hunk → Nat
  | [], [] => 1099511627776
  | g :: _, [] => g.1
  | [], h :: _ => h.1
  | g :: _, h :: _ => min g.1 h.1
/-- Seven signs, as lines. -/
def mark (c : UInt8) : Bytes := List.replicate 7 c
def clashed (u v : Lines) : Lines := [mark 60] ++ u ++ [mark 61] ++ v ++ [mark 62]
def mergeF (base : Lines) : Nat → Nat → List Hunk → List Hunk → Lines × Nat
  | 0, _, _, _ => ([], 0)
  | k + 1, at_, A, B =>
    if A = [] ∧ B = [] then (base.drop at_, 0) else
      match closeF (A.length + B.length + 1) (firstLo A B) A B with
      | (x, y, A', B', hi) =>
        ((base.take (firstLo A B)).drop at_ ++ (if y = [] ∨ mkL base (firstLo A B) hi x = mkL base (firstLo A B) hi y then mkL base (firstLo A B) hi x else if x = [] then mkL base (firstLo A B) hi y else clashed (mkL base (firstLo A B) hi x) (mkL base (firstLo A B) hi y)) ++ (mergeF base k hi A' B').1,
         (if y = [] ∨ mkL base (firstLo A B) hi x = mkL base (firstLo A B) hi y then 0 else if x = [] then 0 else 1) + (mergeF base k hi A' B').2)
def runTo (n : Nat) (g : Nat → Bool) : Nat → Nat → Nat
  | 0, hi => hi
  | k + 1, hi => if hi < n ∧ g hi = true then runTo n g k (hi + 1) else hi
theorem runTo_eq {n : Nat} {g : Nat → Bool} {m : Nat} : ∀ (k hi : Nat), hi ≤ m → m - hi ≤ k → m ≤ n → (∀ i, hi ≤ i → i < m → g i = true) → (m < n → g m = false) → runTo n g k hi = m
  | 0, hi, h1, h2, h3, h4, h5 => by show hi = m; omega
  | k + 1, hi, h1, h2, h3, h4, h5 => by
    unfold runTo
    by_cases e : hi = m
    · subst e
      rw [if_neg fun q => by have := h5 q.1; rw [this] at q; simp at q]
    · rw [if_pos ⟨by omega, h4 hi (Nat.le_refl _) (by omega)⟩]
      exact runTo_eq k (hi + 1) (by omega) (by omega) h3 (fun i i1 i2 => h4 i (by omega) i2) h5
def uses (t : Tch) (lo hi : Nat) : Prop := ∃ k, lo ≤ k ∧ k ≤ hi ∧ t.gap k = true
noncomputable def ruleF (base : Lines) (n : Nat) (tA tB : Tch) : Nat → Nat → Lines × Nat
  | 0, _ => ([], 0)
  | k + 1, i =>
    if n < i then ([], 0) else
      if tA.gap i = false ∧ tB.gap i = false then ((if i < n then [base.getD i []] else []) ++ (ruleF base n tA tB k (i + 1)).1, (ruleF base n tA tB k (i + 1)).2) else
        match runTo n (fun j => tA.gone j || tB.gone j) (n + 1) i with
        | hi => open Classical in
          ((if ¬ uses tB i hi ∨ mk1 base tA i hi = mk1 base tB i hi then mk1 base tA i hi else if ¬ uses tA i hi then mk1 base tB i hi else clashed (mk1 base tA i hi) (mk1 base tB i hi)) ++ (if hi < n then [base.getD hi []] else []) ++ (ruleF base n tA tB k (hi + 1)).1,
           (if ¬ uses tB i hi ∨ mk1 base tA i hi = mk1 base tB i hi then 0 else if ¬ uses tA i hi then 0 else 1) + (ruleF base n tA tB k (hi + 1)).2)
theorem take_next (base : Lines) (at_ i : Nat) (h : at_ ≤ i) : (base.take (i + 1)).drop at_ = (base.take i).drop at_ ++ (if i < base.length then [base.getD i []] else []) := by
  by_cases c : i < base.length
  · rw [if_pos c, List.take_add_one, List.getElem?_eq_getElem c, List.drop_append_of_le_length (by rw [List.length_take]; omega)]
    simp [List.getD, List.getElem?_eq_getElem c]
  · rw [if_neg c, List.append_nil, List.take_of_length_le (by omega), List.take_of_length_le (by omega)]
theorem first_at {n i : Nat} {A B : List Hunk} (hA : HOk n i A) (hB : HOk n i B) (h : (∃ h ∈ A, h.1 = i) ∨ ∃ h ∈ B, h.1 = i) : firstLo A B = i ∧ ¬ (A = [] ∧ B = []) := by
  have head : ∀ {C : List Hunk}, HOk n i C → (∃ h ∈ C, h.1 = i) → ∃ g r, C = g :: r ∧ g.1 = i := by
    intro C hC ⟨h, hh, e⟩
    cases C with
    | nil => cases hh
    | cons g r =>
      refine ⟨g, r, rfl, ?_⟩
      rcases List.mem_cons.1 hh with rfl | hh
      · exact e
      · have := HOk.all hC.2.2.2 h hh; have := hC.1; have := hC.2.1; omega
  rcases h with h | h
  · obtain ⟨g, r, rfl, e⟩ := head hA h
    refine ⟨?_, fun q => by cases q.1⟩
    cases B with
    | nil => exact e
    | cons b B => have := hB.1; show min g.1 b.1 = i; omega
  · obtain ⟨g, r, rfl, e⟩ := head hB h
    refine ⟨?_, fun q => by cases q.2⟩
    cases A with
    | nil => exact e
    | cons b A => have := hA.1; show min b.1 g.1 = i; omega
theorem HOk.up {n : Nat} {A : List Hunk} {b c : Nat} (h : HOk n b A) (hc : ∀ g ∈ A, c ≤ g.1) : HOk n c A := by
  cases A with
  | nil => trivial
  | cons g A => exact ⟨hc g (List.mem_cons_self ..), h.2.1, h.2.2.1, h.2.2.2⟩
theorem merge_rule {n : Nat} {base : Lines} {HA HB : List Hunk} {tA tB : Tch} (sA : Says n base HA tA) (sB : Says n base HB tB) (hn : base.length = n) : ∀ (k m i at_ : Nat) (pA pB A B : List Hunk), HA = pA ++ A → HB = pB ++ B → (∀ h ∈ pA, h.2.1 < i) → (∀ h ∈ pB, h.2.1 < i) → HOk n i A → HOk n i B → n + 1 ≤ i + k → A.length + B.length < m → at_ ≤ i →
    (mergeF base m at_ A B).1 = (base.take i).drop at_ ++ (ruleF base n tA tB k i).1 ∧ (mergeF base m at_ A B).2 = (ruleF base n tA tB k i).2 := by
  intro k
  induction k with
  | zero =>
    intro m i at_ pA pB A B eA eB qA qB hA hB hk hm ha
    have nA : A = [] := by cases A with | nil => rfl | cons g A => exfalso; have := hA.1; have := hA.2.1; have := hA.2.2.1; omega
    have nB : B = [] := by cases B with | nil => rfl | cons g B => exfalso; have := hB.1; have := hB.2.1; have := hB.2.2.1; omega
    obtain ⟨m, rfl⟩ : ∃ m', m = m' + 1 := ⟨m - 1, by omega⟩
    unfold mergeF ruleF
    rw [if_pos ⟨nA, nB⟩, List.take_of_length_le (by omega)]
    simp
  | succ k ih =>
    intro m i at_ pA pB A B eA eB qA qB hA hB hk hm ha
    obtain ⟨m, rfl⟩ : ∃ m', m = m' + 1 := ⟨m - 1, by omega⟩
    by_cases hi : n < i
    · have nA : A = [] := by cases A with | nil => rfl | cons g A => exfalso; have := hA.1; have := hA.2.1; have := hA.2.2.1; omega
      have nB : B = [] := by cases B with | nil => rfl | cons g B => exfalso; have := hB.1; have := hB.2.1; have := hB.2.2.1; omega
      unfold mergeF ruleF
      rw [if_pos ⟨nA, nB⟩, if_pos hi, List.take_of_length_le (by omega)]
      simp
    have gapsA : tA.gap i = true ↔ ∃ h ∈ A, h.1 = i := by
      rw [sA.gap]
      constructor
      · rintro ⟨h, hh, q1, q2⟩
        rw [eA] at hh
        rcases List.mem_append.1 hh with hh | hh
        · have := qA h hh; omega
        · have := HOk.all hA h hh; exact ⟨h, hh, by omega⟩
      · rintro ⟨h, hh, e⟩
        have := HOk.all hA h hh
        exact ⟨h, by rw [eA]; exact List.mem_append_right _ hh, by omega, by omega⟩
    have gapsB : tB.gap i = true ↔ ∃ h ∈ B, h.1 = i := by
      rw [sB.gap]
      constructor
      · rintro ⟨h, hh, q1, q2⟩
        rw [eB] at hh
        rcases List.mem_append.1 hh with hh | hh
        · have := qB h hh; omega
        · have := HOk.all hB h hh; exact ⟨h, hh, by omega⟩
      · rintro ⟨h, hh, e⟩
        have := HOk.all hB h hh
        exact ⟨h, by rw [eB]; exact List.mem_append_right _ hh, by omega, by omega⟩
    by_cases hg : tA.gap i = false ∧ tB.gap i = false
    · have uA : HOk n (i + 1) A := hA.up fun g hg' => by
        have := HOk.all hA g hg'
        have : g.1 ≠ i := fun e => by have := gapsA.2 ⟨g, hg', e⟩; rw [hg.1] at this; cases this
        omega
      have uB : HOk n (i + 1) B := hB.up fun g hg' => by
        have := HOk.all hB g hg'
        have : g.1 ≠ i := fun e => by have := gapsB.2 ⟨g, hg', e⟩; rw [hg.2] at this; cases this
        omega
      obtain ⟨r1, r2⟩ := ih (m + 1) (i + 1) at_ pA pB A B eA eB (fun h hh => by have := qA h hh; omega) (fun h hh => by have := qB h hh; omega) uA uB (by omega) hm (by omega)
      have er : ruleF base n tA tB (k + 1) i = ((if i < n then [base.getD i []] else []) ++ (ruleF base n tA tB k (i + 1)).1, (ruleF base n tA tB k (i + 1)).2) := by
        rw [ruleF, if_neg hi, if_pos hg]
      rw [r1, r2, take_next base at_ i ha, hn, er, List.append_assoc]
      exact ⟨rfl, rfl⟩
    · have hg' : tA.gap i = true ∨ tB.gap i = true := by
        cases h1 : tA.gap i with
        | true => exact .inl rfl
        | false => cases h2 : tB.gap i with
          | true => exact .inr rfl
          | false => exact absurd ⟨h1, h2⟩ hg
      obtain ⟨f1, f2⟩ := first_at hA hB (hg'.elim (fun q => .inl (gapsA.1 q)) fun q => .inr (gapsB.1 q))
      have cl := close_ok (n := n) (A.length + B.length + 1) i A B i i (by omega) hA hB (by omega)
      have em : mergeF base (m + 1) at_ A B = (match closeF (A.length + B.length + 1) i A B with
        | (x, y, A', B', hi) =>
          ((base.take i).drop at_ ++ (if y = [] ∨ mkL base i hi x = mkL base i hi y then mkL base i hi x else if x = [] then mkL base i hi y else clashed (mkL base i hi x) (mkL base i hi y)) ++ (mergeF base m hi A' B').1,
           (if y = [] ∨ mkL base i hi x = mkL base i hi y then 0 else if x = [] then 0 else 1) + (mergeF base m hi A' B').2)) := by
        rw [mergeF, if_neg f2, f1]
      rw [em]
      generalize closeF (A.length + B.length + 1) i A B = r at cl
      obtain ⟨x, y, A', B', hi'⟩ := r
      obtain ⟨ca, cb, cle, ctop, cx, cy, cra, crb, ccov⟩ := cl
      simp only at ca cb cle ctop cx cy cra crb ccov ⊢
      have hx := cx i hA
      have hy := cy i hB
      have offA : ∀ h ∈ HA, h.2.1 < i ∨ h ∈ x ∨ hi' < h.1 := fun h hh => by
        rw [eA, ← ca] at hh
        rcases List.mem_append.1 hh with hh | hh
        · exact .inl (qA h hh)
        · rcases List.mem_append.1 hh with hh | hh
          · exact .inr (.inl hh)
          · exact .inr (.inr (cra h hh))
      have offB : ∀ h ∈ HB, h.2.1 < i ∨ h ∈ y ∨ hi' < h.1 := fun h hh => by
        rw [eB, ← cb] at hh
        rcases List.mem_append.1 hh with hh | hh
        · exact .inl (qB h hh)
        · rcases List.mem_append.1 hh with hh | hh
          · exact .inr (.inl hh)
          · exact .inr (.inr (crb h hh))
      have inA : ∀ h ∈ x, h ∈ HA := fun h hh => by rw [eA, ← ca]; exact List.mem_append_right _ (List.mem_append_left _ hh)
      have inB : ∀ h ∈ y, h ∈ HB := fun h hh => by rw [eB, ← cb]; exact List.mem_append_right _ (List.mem_append_left _ hh)
      have uA := mk_part sA hn cle ctop x hx inA offA
      have uB := mk_part sB hn cle ctop y hy inB offB
      have er1 : runTo n (fun j => tA.gone j || tB.gone j) (n + 1) i = hi' := by
        refine runTo_eq (n + 1) i cle (by omega) ctop (fun j j1 j2 => ?_) fun q => ?_
        · rcases ccov j j1 j2 with ⟨h, hh, q⟩ | ⟨h, hh, q⟩
          · simp only [Bool.or_eq_true]; exact .inl ((sA.gone j).2 ⟨h, inA h hh, q⟩)
          · simp only [Bool.or_eq_true]; exact .inr ((sB.gone j).2 ⟨h, inB h hh, q⟩)
        · have n1 : tA.gone hi' = false := by
            cases hgo : tA.gone hi' with
            | false => rfl
            | true =>
              obtain ⟨h, hh, z1, z2⟩ := (sA.gone _).1 hgo
              rcases offA h hh with w | w | w
              · omega
              · have := HOk.all hx h w; omega
              · omega
          have n2 : tB.gone hi' = false := by
            cases hgo : tB.gone hi' with
            | false => rfl
            | true =>
              obtain ⟨h, hh, z1, z2⟩ := (sB.gone _).1 hgo
              rcases offB h hh with w | w | w
              · omega
              · have := HOk.all hy h w; omega
              · omega
          simp [n1, n2]
      have usA : ¬ uses tA i hi' ↔ x = [] := by
        constructor
        · intro q
          cases x with
          | nil => rfl
          | cons g x => exact absurd ⟨g.1, hx.1, by have := HOk.all hx g (List.mem_cons_self ..); omega, (sA.gap _).2 ⟨g, inA g (List.mem_cons_self ..), Nat.le_refl _, hx.2.1⟩⟩ q
        · rintro rfl ⟨j, j1, j2, j3⟩
          obtain ⟨h, hh, z1, z2⟩ := (sA.gap _).1 j3
          rcases offA h hh with w | w | w
          · omega
          · cases w
          · omega
      have usB : ¬ uses tB i hi' ↔ y = [] := by
        constructor
        · intro q
          cases y with
          | nil => rfl
          | cons g y => exact absurd ⟨g.1, hy.1, by have := HOk.all hy g (List.mem_cons_self ..); omega, (sB.gap _).2 ⟨g, inB g (List.mem_cons_self ..), Nat.le_refl _, hy.2.1⟩⟩ q
        · rintro rfl ⟨j, j1, j2, j3⟩
          obtain ⟨h, hh, z1, z2⟩ := (sB.gap _).1 j3
          rcases offB h hh with w | w | w
          · omega
          · cases w
          · omega
      have hlt : A'.length + B'.length < m := by
        have e1 := congrArg List.length ca
        have e2 := congrArg List.length cb
        rw [List.length_append] at e1 e2
        have : 0 < x.length + y.length := by
          rcases hg' with q | q
          · obtain ⟨h, hh, e⟩ := gapsA.1 q
            rw [← ca] at hh
            rcases List.mem_append.1 hh with hh | hh
            · have := List.length_pos_of_mem hh; omega
            · have := cra h hh; omega
          · obtain ⟨h, hh, e⟩ := gapsB.1 q
            rw [← cb] at hh
            rcases List.mem_append.1 hh with hh | hh
            · have := List.length_pos_of_mem hh; omega
            · have := crb h hh; omega
        omega
      have tA' : HOk n (hi' + 1) A' := by
        have : HOk n i (x ++ A') := by rw [ca]; exact hA
        exact (HOk.drop this).up fun g hg => by have := cra g hg; omega
      have tB' : HOk n (hi' + 1) B' := by
        have : HOk n i (y ++ B') := by rw [cb]; exact hB
        exact (HOk.drop this).up fun g hg => by have := crb g hg; omega
      obtain ⟨r1, r2⟩ := ih m (hi' + 1) hi' (pA ++ x) (pB ++ y) A' B' (by rw [eA, ← ca, List.append_assoc]) (by rw [eB, ← cb, List.append_assoc])
        (fun h hh => by
          rcases List.mem_append.1 hh with hh | hh
          · have := qA h hh; omega
          · have := HOk.all hx h hh; omega)
        (fun h hh => by
          rcases List.mem_append.1 hh with hh | hh
          · have := qB h hh; omega
          · have := HOk.all hy h hh; omega) tA' tB' (by omega) hlt (by omega)
      have er : ruleF base n tA tB (k + 1) i = (open Classical in
          ((if ¬ uses tB i hi' ∨ mk1 base tA i hi' = mk1 base tB i hi' then mk1 base tA i hi' else if ¬ uses tA i hi' then mk1 base tB i hi' else clashed (mk1 base tA i hi') (mk1 base tB i hi')) ++ (if hi' < n then [base.getD hi' []] else []) ++ (ruleF base n tA tB k (hi' + 1)).1,
           (if ¬ uses tB i hi' ∨ mk1 base tA i hi' = mk1 base tB i hi' then 0 else if ¬ uses tA i hi' then 0 else 1) + (ruleF base n tA tB k (hi' + 1)).2)) := by
        rw [ruleF, if_neg hi, if_neg hg, er1]
      rw [er, r1, r2, take_next base hi' hi' (Nat.le_refl _), hn, uA, uB]
      have e0 : (base.take hi').drop hi' = [] := List.drop_of_length_le (by rw [List.length_take]; omega)
      rw [e0, List.nil_append]
      refine ⟨?_, ?_⟩
      · simp only [usA, usB, List.append_assoc]
      · simp only [usA, usB]
end Go.Fu
