/-
  Words: the list of a table, in order of the words.
-/
import Derived.Test.YtmpmlnjiolbplaaVpWA
set_option linter.unusedVariables false
set_option linter.unusedSimpArgs false
namespace Go.Fu
open Go.Vc
abbrev tWord : Ty := .st (.cons .str (.cons (.sl tI) .nil))
abbrev WTab := List (Bytes × List Int)
noncomputable section
def wLe (a b : Bytes × List Int) : Bool := decide (a.1 ≤ b.1)
def WL (T : WTab) : WTab := T.mergeSort wLe
def wordsAll (s : Bytes) : WTab × Int := open Classical in if 600 < s.length then ([], 1) else (WL (tabOf s), 0)
def words_All_ct : Ct := ⟨tys1 .str, [.val (.sl tWord), .val tI], fun s => fitS s, fun s => wordsAll s⟩
def ref_WordsAll_ct : Ct := words_All_ct
abbrev wtFit (l : WTab) : Prop := fitL l ∧ ∀ x ∈ l, fitS x.1 ∧ fitL x.2
def ref_SameWords_ct : Ct := ⟨tys2 (.sl tWord) (.sl tWord), [.val .bool], fun x => wtFit x.1 ∧ wtFit x.2, fun x => bo (x.1 = x.2)⟩
def law_WordsAlls_ct : Ct := ⟨tys1 .str, [.val .bool], fun s => fitS s, fun _ => true⟩
end
theorem wLe_trans (a b c : Bytes × List Int) (h1 : wLe a b = true) (h2 : wLe b c = true) : wLe a c = true := by
  simp only [wLe, decide_eq_true_eq] at *
  exact List.le_trans h1 h2
theorem wLe_total (a b : Bytes × List Int) : (wLe a b || wLe b a) = true := by
  simp only [wLe, Bool.or_eq_true, decide_eq_true_eq]
  exact List.le_total a.1 b.1
theorem WL_perm (T : WTab) : (WL T).Perm T := List.mergeSort_perm _ _
theorem WL_length (T : WTab) : (WL T).length = T.length := (WL_perm T).length_eq
theorem WL_nodup {T : WTab} (h : (T.map (·.1)).Nodup) : ((WL T).map (·.1)).Nodup := ((WL_perm T).map _).nodup_iff.2 h
theorem str_lt_iff (a b : Bytes) : a < b ↔ a ≤ b ∧ a ≠ b := by
  constructor
  · intro h
    exact ⟨List.le_of_lt h, fun e => List.lt_irrefl b (e ▸ h)⟩
  · rintro ⟨h1, h2⟩
    rcases Classical.em (a < b) with c | c
    · exact c
    · exact absurd (List.le_antisymm h1 (List.not_lt.1 c)) h2
theorem WL_sorted {T : WTab} (h : (T.map (·.1)).Nodup) : (WL T).Pairwise fun a b => a.1 < b.1 := by
  have h1 : (WL T).Pairwise fun a b => wLe a b = true := List.pairwise_mergeSort wLe_trans wLe_total T
  have h2 := WL_nodup h
  have h3 : (WL T).Pairwise fun a b => a.1 ≠ b.1 := List.pairwise_map.1 (List.nodup_iff_pairwise_ne.1 h2)
  refine (h1.and h3).imp fun {a b} q => ?_
  have := q.1
  simp only [wLe, decide_eq_true_eq] at this
  exact (str_lt_iff _ _).2 ⟨this, q.2⟩
theorem sorted_eq {L M : WTab} (hp : L.Perm M) (h1 : L.Pairwise fun a b => a.1 < b.1) (h2 : M.Pairwise fun a b => a.1 < b.1) : L = M := by
  refine List.Perm.eq_of_pairwise (le := fun a b : Bytes × List Int => a.1 < b.1) ?_ h1 h2 hp
  intro a b _ _ h3 h4
  exact absurd h4 (List.lt_asymm h3)
theorem WL_eq {T L : WTab} (hp : L.Perm T) (h : L.Pairwise fun a b => a.1 < b.1) : WL T = L := by
  have hn : (T.map (·.1)).Nodup := by
    refine (hp.map (·.1)).nodup_iff.1 (List.nodup_iff_pairwise_ne.2 (List.pairwise_map.2 (h.imp fun {a b} q => ?_)))
    exact fun e => List.lt_irrefl a.1 (by rw [show a.1 < a.1 ↔ a.1 < b.1 by rw [e]]; exact q)
  exact (sorted_eq ((WL_perm T).trans hp.symm) (WL_sorted hn) h)
theorem tab_get {T : WTab} (h : (T.map (·.1)).Nodup) {x : Bytes × List Int} (hx : x ∈ T) : tabGet T x.1 = x.2 := by
  induction T with
  | nil => cases hx
  | cons y T ih =>
    obtain ⟨u, a⟩ := y
    simp only [List.map_cons, List.nodup_cons] at h
    simp only [tabGet]
    rcases List.mem_cons.1 hx with rfl | hx
    · rw [if_pos rfl]
    · rw [if_neg (fun e : u = x.1 => h.1 (by rw [e]; exact List.mem_map_of_mem (f := (·.1)) hx))]
      exact ih h.2 hx
/-- As the program does: the keys in order, what stands under each. -/
theorem WL_keys {T : WTab} (h : (T.map (·.1)).Nodup) {ks : List Bytes} (hp : ks.Perm (T.map (·.1))) (hs : ks.Pairwise fun a b => a < b) : WL T = ks.map fun w => (w, tabGet T w) := by
  have h1 : ∀ x ∈ T, tabGet T x.1 = x.2 := fun x hx => tab_get h hx
  refine WL_eq ?_ ?_
  · have e : T = (T.map (·.1)).map fun w => (w, tabGet T w) := by
      rw [List.map_map]
      conv => lhs; rw [← List.map_id T]
      exact List.map_congr_left fun x hx => by simp only [id, Function.comp]; rw [h1 x hx]
    conv => rhs; rw [e]
    exact hp.map _
  · rw [List.pairwise_map]; exact hs
theorem tabAdd_keys (T : WTab) (e : Bytes × Nat) : (tabAdd T e).map (·.1) = if e.1 ∈ T.map (·.1) then T.map (·.1) else T.map (·.1) ++ [e.1] := by
  induction T with
  | nil => simp [tabAdd]
  | cons y T ih =>
    obtain ⟨u, a⟩ := y
    simp only [tabAdd]
    by_cases c : u = e.1
    · rw [if_pos c, if_pos (by simp [c])]; rfl
    · rw [if_neg c, List.map_cons, ih]
      by_cases d : e.1 ∈ T.map (·.1)
      · rw [if_pos d, if_pos (by simp only [List.map_cons, List.mem_cons]; exact .inr d)]; rfl
      · rw [if_neg d, if_neg (by simp only [List.map_cons, List.mem_cons, not_or]; exact ⟨fun e => c e.symm, d⟩)]; rfl
theorem tabAdd_nodup {T : WTab} (h : (T.map (·.1)).Nodup) (e : Bytes × Nat) : ((tabAdd T e).map (·.1)).Nodup := by
  rw [tabAdd_keys]
  split
  · exact h
  · rename_i c
    exact List.nodup_append.2 ⟨h, by simp, fun a ha b hb => by rintro rfl; simp only [List.mem_singleton] at hb; exact c (hb ▸ ha)⟩
theorem tabFold_nodup (L : List (Bytes × Nat)) : ∀ {T : WTab}, (T.map (·.1)).Nodup → ((L.foldl tabAdd T).map (·.1)).Nodup := by
  induction L with
  | nil => intro T h; exact h
  | cons e L ih => intro T h; exact ih (tabAdd_nodup h e)
theorem tabOf_nodup (s : Bytes) : ((tabOf s).map (·.1)).Nodup := tabFold_nodup _ List.nodup_nil
theorem tabAdd_len (T : WTab) (e : Bytes × Nat) : (tabAdd T e).length ≤ T.length + 1 := by
  have := congrArg List.length (tabAdd_keys T e)
  rw [List.length_map] at this
  rw [this]
  split <;> simp
theorem tabFold_len (L : List (Bytes × Nat)) : ∀ (T : WTab), (L.foldl tabAdd T).length ≤ T.length + L.length := by
  induction L with
  | nil => intro T; simp
  | cons e L ih => intro T; have := ih (tabAdd T e); have := tabAdd_len T e; simp only [List.foldl_cons, List.length_cons]; omega
theorem fromW_len (s : Bytes) : (fromW s 0).length ≤ s.length := by
  unfold fromW; refine Nat.le_trans (List.length_filterMap_le _ _) ?_; simp
theorem tabOf_len (s : Bytes) : (tabOf s).length ≤ s.length := by
  have := tabFold_len (fromW s 0) []
  have := fromW_len s
  unfold tabOf; simp only [List.length_nil] at *; omega
theorem tabOf_mem {s : Bytes} {x : Bytes × List Int} (hx : x ∈ tabOf s) : x.2 = findW s x.1 := by rw [← tab_get (tabOf_nodup s) hx, tabGet_of]
theorem tabAdd_pos {T : WTab} (h : ∀ x ∈ T, x.2 ≠ []) (e : Bytes × Nat) : ∀ x ∈ tabAdd T e, x.2 ≠ [] := by
  induction T with
  | nil => intro x hx; simp only [tabAdd, List.mem_singleton] at hx; subst hx; simp
  | cons y T ih =>
    obtain ⟨u, a⟩ := y
    intro x hx
    simp only [tabAdd] at hx
    split at hx
    · rcases List.mem_cons.1 hx with rfl | hx
      · simp
      · exact h x (List.mem_cons_of_mem _ hx)
    · rcases List.mem_cons.1 hx with rfl | hx
      · exact h (u, a) (List.mem_cons_self ..)
      · exact ih (fun z hz => h z (List.mem_cons_of_mem _ hz)) x hx
theorem tabFold_pos (L : List (Bytes × Nat)) : ∀ {T : WTab}, (∀ x ∈ T, x.2 ≠ []) → ∀ x ∈ L.foldl tabAdd T, x.2 ≠ [] := by
  induction L with
  | nil => intro T h; exact h
  | cons e L ih => intro T h; exact ih (tabAdd_pos h e)
theorem wordsAll_fit {s : Bytes} : wtFit (wordsAll s).1 := by
  unfold wordsAll
  split
  · exact ⟨Nat.zero_le _, fun x hx => by cases hx⟩
  · have hl := tabOf_len s
    refine ⟨by show (WL (tabOf s)).length ≤ _; rw [WL_length]; omega, fun x hx => ?_⟩
    have hx : x ∈ tabOf s := (WL_perm _).mem_iff.1 hx
    have h1 := tabOf_mem hx
    have h2 := findW_len s x.1
    refine ⟨?_, by rw [h1]; show (findW s x.1).length ≤ _; omega⟩
    have h3 : findW s x.1 ≠ [] := by rw [← h1]; exact tabFold_pos _ (fun x hx => by cases hx) x hx
    show x.1.length ≤ _
    cases hf : (fromW s 0).filter (fun e => e.1 = x.1) with
    | nil => exact absurd (by unfold findW; rw [hf]; rfl) h3
    | cons e r =>
      have he : e ∈ (fromW s 0).filter (fun e => e.1 = x.1) := by rw [hf]; exact List.mem_cons_self ..
      have := (List.mem_filter.1 he)
      have h4 := (fromW_lt this.1).2.1
      have h5 : e.1 = x.1 := by simpa using this.2
      rw [← h5]; omega
end Go.Fu
