/-
  Words of a text that is changed: those apart from the change stay, those around it come anew.
-/
import Derived.Test.YtmpmlnjiolbplaaVpWB
import Derived.Test.YtmpmlnjiolbplaaVpE
set_option linter.unusedVariables false
set_option linter.unusedSimpArgs false
namespace Go.Fu
open Go.Vc
noncomputable section
def arLo (s : Bytes) : Nat → Nat
  | 0 => 0
  | n + 1 => if isP (gt s (n : Int)) = true then arLo s n else n + 1
def arHi (s : Bytes) (n : Nat) : Nat := n + runL s n
abbrev arPre (s : Bytes) (lo hi : Int) : Prop := fitS s ∧ 0 ≤ lo ∧ lo ≤ hi ∧ hi ≤ s.length
def around (s : Bytes) (lo hi : Int) : Int × Int := ((arLo s lo.toNat : Int), (arHi s hi.toNat : Int))
def words_Around_ct : Ct := ⟨tys3 .str tI tI, [.val tI, .val tI], fun x => arPre x.1 x.2.1 x.2.2, fun x => around x.1 x.2.1 x.2.2⟩
def slices_Equal___int_int__ct : Ct := ⟨tys2 (.sl tI) (.sl tI), [.val .bool], fun x => fitL x.1 ∧ fitL x.2, fun x => bo (x.1 = x.2)⟩
abbrev wdFit (x : Bytes × List Int) : Prop := fitS x.1 ∧ fitL x.2
def words_Update_1_ct : Ct := ⟨tys2 tWord tWord, [.val .bool], fun x => wdFit x.1 ∧ wdFit x.2, fun x => bo (x.1 = x.2)⟩
def wordsUpdate (s : Bytes) (l : WTab) (e : Edit) : WTab × Int := open Classical in
  if 600 < s.length then ([], 1) else if l ≠ WL (tabOf s) then ([], 4) else if editFault s.length e ≠ 0 then ([], editFault s.length e) else (WL (tabOf (editMade s e)), 0)
def words_Update_ct : Ct := ⟨tys3 .str (.sl tWord) tEdit, [.val (.sl tWord), .val tI], fun x => fitS x.1 ∧ wtFit x.2.1 ∧ editFits x.2.2, fun x => wordsUpdate x.1 x.2.1 x.2.2⟩
def ref_WordsUpdate_ct : Ct := words_Update_ct
def law_WordsUpdates_ct : Ct := ⟨tys3 .str (.sl tWord) tEdit, [.val .bool], fun x => fitS x.1 ∧ wtFit x.2.1 ∧ editFits x.2.2, fun _ => true⟩
end
theorem arLo_le (s : Bytes) : ∀ n, arLo s n ≤ n
  | 0 => Nat.le_refl _
  | n + 1 => by
    have := arLo_le s n
    unfold arLo; split <;> omega
theorem arLo_end (s : Bytes) : ∀ n, arLo s n = 0 ∨ isP (gt s ((arLo s n : Nat) - 1 : Int)) = false
  | 0 => .inl rfl
  | n + 1 => by
    unfold arLo
    split
    · exact arLo_end s n
    · rename_i h
      refine .inr ?_
      rw [show (((n + 1 : Nat) : Int) - 1) = (n : Int) by omega]
      simpa using h
theorem arHi_le {s : Bytes} {n : Nat} (h : n ≤ s.length) : n ≤ arHi s n ∧ arHi s n ≤ s.length := by
  have := runL_le s n
  unfold arHi; omega
theorem arHi_end {s : Bytes} {n : Nat} (h : n ≤ s.length) : arHi s n = s.length ∨ isP (gt s (arHi s n : Int)) = false := by
  have := runL_le s n
  unfold arHi
  by_cases c : n + runL s n = s.length
  · exact .inl c
  · exact .inr (run_end (by omega))
/-! ### Texts put together where no word goes over -/
def shiftW (d : Nat) (L : List (Bytes × Nat)) : List (Bytes × Nat) := L.map fun e => (e.1, d + e.2)
/-- No word goes over from one to the other. -/
def apart (X Y : Bytes) : Prop := X = [] ∨ isP (gt X ((X.length : Int) - 1)) = false ∨ Y = [] ∨ isP (gt Y 0) = false
theorem run_ge {s : Bytes} {i L : Nat} (h1 : i + L ≤ s.length) (h2 : ∀ j, j < L → isP (gt s ((i + j : Nat) : Int)) = true) : L ≤ runL s i := by
  rcases Nat.lt_or_ge (runL s i) L with c | c
  · have := run_end (s := s) (i := i) (by omega)
    rw [h2 _ c] at this; cases this
  · exact c
theorem run_app_l {X Y : Bytes} (h : apart X Y) {i : Nat} (hi : i < X.length) : runL (X ++ Y) i = runL X i := by
  have hl := runL_le X i
  have g : ∀ j, i + j < X.length → gt (X ++ Y) ((i + j : Nat) : Int) = gt X ((i + j : Nat) : Int) := fun j hj => gt_append_l (by omega) (by omega)
  refine run_eq (by rw [List.length_append]; omega) (fun j hj => by rw [g j (by omega)]; exact run_at hj) ?_
  by_cases c : i + runL X i < X.length
  · exact .inr (by rw [g _ c]; exact run_end c)
  · have e : i + runL X i = X.length := by omega
    rw [e]
    rcases h with h | h | h | h
    · subst h; simp at hi
    · have := run_at (s := X) (i := i) (j := X.length - 1 - i) (by omega)
      rw [show ((i + (X.length - 1 - i) : Nat) : Int) = (X.length : Int) - 1 by omega, h] at this
      cases this
    · subst h; exact .inl (by simp)
    · refine .inr ?_
      rw [gt_append_r (by omega), show ((X.length : Nat) : Int) - (X.length : Int) = 0 by omega]; exact h
theorem run_app_r (X Y : Bytes) {k : Nat} (hk : k ≤ Y.length) : runL (X ++ Y) (X.length + k) = runL Y k := by
  unfold runL
  rw [List.drop_append]
  have e : X.drop (X.length + k) = [] := List.drop_of_length_le (by omega)
  rw [e, List.nil_append, show X.length + k - X.length = k by omega]
theorem ent_app_l {X Y : Bytes} (h : apart X Y) {i : Nat} (hi : i < X.length) : entW (X ++ Y) i = entW X i := by
  have hr := run_app_l h hi
  have hl := runL_le X i
  have ho : opens (X ++ Y) i ↔ opens X i := by
    unfold opens
    by_cases c : i = 0
    · simp [c]
    · rw [gt_append_l (by omega) (by omega)]
  by_cases o : opens X i
  · rw [entW_open (ho.2 o), entW_open o, hr]
    congr 2
    rw [List.drop_append_of_le_length (by omega), List.take_append_of_le_length (by rw [List.length_drop]; omega)]
  · rw [entW_shut (fun q => o (ho.1 q)), entW_shut o]
theorem ent_app_r {X Y : Bytes} (h : apart X Y) {k : Nat} (hk : k < Y.length) : entW (X ++ Y) (X.length + k) = (entW Y k).map fun e => (e.1, X.length + e.2) := by
  have hr := run_app_r X Y (k := k) (by omega)
  have hd : (X ++ Y).drop (X.length + k) = Y.drop k := by
    rw [List.drop_append]
    have e : X.drop (X.length + k) = [] := List.drop_of_length_le (by omega)
    rw [e, List.nil_append, show X.length + k - X.length = k by omega]
  have opn : opens (X ++ Y) (X.length + k) → opens Y k → entW (X ++ Y) (X.length + k) = (entW Y k).map fun e => (e.1, X.length + e.2) := fun o1 o2 => by
    rw [entW_open o1, entW_open o2, hr, hd]
    split <;> rfl
  by_cases c : k = 0
  · subst c
    by_cases o1 : opens (X ++ Y) (X.length + 0)
    · exact opn o1 (.inl rfl)
    · have hp : ¬ 0 < runL Y 0 := fun q => by
        have h0 := run_at (s := Y) (i := 0) (j := 0) q
        rcases h with h | h | h | h
        · subst h; exact o1 (.inl rfl)
        · refine o1 (.inr ?_)
          by_cases z : X.length = 0
          · exact absurd (.inl (by rw [z])) o1
          · rw [gt_append_l (by omega) (by omega), Nat.add_zero]; exact h
        · subst h; simp at hk
        · rw [show ((0 + 0 : Nat) : Int) = 0 by omega, h] at h0; cases h0
      rw [entW_shut o1, entW_open (.inl rfl), if_neg (fun q => hp q.1)]; rfl
  · have ho : opens (X ++ Y) (X.length + k) ↔ opens Y k := by
      unfold opens
      rw [gt_append_r (by omega), show ((X.length + k : Nat) : Int) - 1 - (X.length : Int) = (k : Int) - 1 by omega]
      constructor
      · rintro (q | q)
        · omega
        · exact .inr q
      · rintro (q | q)
        · omega
        · exact .inr q
    by_cases o : opens Y k
    · exact opn (ho.2 o) o
    · rw [entW_shut (fun q => o (ho.1 q)), entW_shut o]; rfl
theorem filterMap_same {α β : Type} {f g : α → Option β} : ∀ {l : List α}, (∀ x ∈ l, f x = g x) → l.filterMap f = l.filterMap g
  | [], _ => rfl
  | a :: l, h => by
    rw [List.filterMap_cons, List.filterMap_cons, h a (List.mem_cons_self ..), filterMap_same fun x hx => h x (List.mem_cons_of_mem _ hx)]
/-- The words of two texts put together. -/
theorem fromW_app {X Y : Bytes} (h : apart X Y) : fromW (X ++ Y) 0 = fromW X 0 ++ shiftW X.length (fromW Y 0) := by
  unfold fromW shiftW
  rw [Nat.sub_zero, Nat.sub_zero, Nat.sub_zero, List.length_append, List.range'_append_1.symm, List.filterMap_append]
  congr 1
  · refine filterMap_same fun i hi => ?_
    have := List.mem_range'_1.1 hi
    exact ent_app_l h (by omega)
  · rw [List.map_filterMap, Nat.zero_add]
    have e : List.range' X.length Y.length = (List.range' 0 Y.length).map (X.length + ·) := by
      rw [List.map_add_range']
      rfl
    rw [e, List.filterMap_map]
    refine filterMap_same fun k hk => ?_
    have := List.mem_range'_1.1 hk
    exact ent_app_r h (by omega)
/-! ### Tables -/
abbrev WI := Bytes × Int
noncomputable section
def tabPut (T : WTab) (e : WI) : WTab :=
  match T with
  | [] => [(e.1, [e.2])]
  | (w, a) :: T => if w = e.1 then (w, a ++ [e.2]) :: T else (w, a) :: tabPut T e
def flatI (T : WTab) : List WI := T.flatMap fun x => x.2.map fun a => (x.1, a)
def intE (E : List (Bytes × Nat)) : List WI := E.map fun e => (e.1, (e.2 : Int))
def srt (l : List Int) : List Int := l.mergeSort fun x y => decide (x ≤ y)
def sortT (T : WTab) : WTab := T.map fun x => (x.1, srt x.2)
end
theorem tabAdd_put (T : WTab) (e : Bytes × Nat) : tabAdd T e = tabPut T (e.1, (e.2 : Int)) := by
  induction T with
  | nil => rfl
  | cons y T ih =>
    obtain ⟨u, a⟩ := y
    simp only [tabAdd, tabPut, ih]
theorem tabFold_put (L : List (Bytes × Nat)) : ∀ (T : WTab), L.foldl tabAdd T = (intE L).foldl tabPut T := by
  induction L with
  | nil => intro T; rfl
  | cons e L ih => intro T; show L.foldl tabAdd (tabAdd T e) = (intE L).foldl tabPut (tabPut T (e.1, (e.2 : Int))); rw [ih, tabAdd_put]
theorem tabPut_get (T : WTab) (e : WI) (w : Bytes) : tabGet (tabPut T e) w = tabGet T w ++ if e.1 = w then [e.2] else [] := by
  induction T with
  | nil => simp only [tabPut, tabGet, List.nil_append]
  | cons x T ih =>
    obtain ⟨u, a⟩ := x
    simp only [tabPut]
    by_cases h : u = e.1
    · rw [if_pos h]
      simp only [tabGet]
      by_cases g : u = w
      · rw [if_pos g, if_pos g, if_pos (by rw [← h]; exact g)]
      · rw [if_neg g, if_neg g, if_neg (by rw [← h]; exact g), List.append_nil]
    · rw [if_neg h]
      simp only [tabGet]
      by_cases g : u = w
      · rw [if_pos g, if_pos g, if_neg (by rw [← g]; exact fun q => h q.symm), List.append_nil]
      · rw [if_neg g, if_neg g, ih]
theorem putFold_get (L : List WI) : ∀ (T : WTab) (w : Bytes), tabGet (L.foldl tabPut T) w = tabGet T w ++ (L.filter fun e => e.1 = w).map (·.2) := by
  induction L with
  | nil => simp
  | cons e L ih =>
    intro T w
    rw [List.foldl_cons, ih, tabPut_get, List.append_assoc]
    congr 1
    by_cases h : e.1 = w
    · simp [h]
    · simp [h]
theorem tabPut_keys (T : WTab) (e : WI) : (tabPut T e).map (·.1) = if e.1 ∈ T.map (·.1) then T.map (·.1) else T.map (·.1) ++ [e.1] := by
  induction T with
  | nil => simp [tabPut]
  | cons y T ih =>
    obtain ⟨u, a⟩ := y
    simp only [tabPut]
    by_cases c : u = e.1
    · rw [if_pos c, if_pos (by simp [c])]; rfl
    · rw [if_neg c, List.map_cons, ih]
      by_cases d : e.1 ∈ T.map (·.1)
      · rw [if_pos d, if_pos (by simp only [List.map_cons, List.mem_cons]; exact .inr d)]; rfl
      · rw [if_neg d, if_neg (by simp only [List.map_cons, List.mem_cons, not_or]; exact ⟨fun e => c e.symm, d⟩)]; rfl
theorem tabPut_nodup {T : WTab} (h : (T.map (·.1)).Nodup) (e : WI) : ((tabPut T e).map (·.1)).Nodup := by
  rw [tabPut_keys]
  split
  · exact h
  · rename_i c
    exact List.nodup_append.2 ⟨h, by simp, fun a ha b hb => by rintro rfl; simp only [List.mem_singleton] at hb; exact c (hb ▸ ha)⟩
theorem putFold_nodup (L : List WI) : ∀ {T : WTab}, (T.map (·.1)).Nodup → ((L.foldl tabPut T).map (·.1)).Nodup := by
  induction L with
  | nil => intro T h; exact h
  | cons e L ih => intro T h; exact ih (tabPut_nodup h e)
theorem tabPut_pos {T : WTab} (h : ∀ x ∈ T, x.2 ≠ []) (e : WI) : ∀ x ∈ tabPut T e, x.2 ≠ [] := by
  induction T with
  | nil => intro x hx; simp only [tabPut, List.mem_singleton] at hx; subst hx; simp
  | cons y T ih =>
    obtain ⟨u, a⟩ := y
    intro x hx
    simp only [tabPut] at hx
    split at hx
    · rcases List.mem_cons.1 hx with rfl | hx
      · simp
      · exact h x (List.mem_cons_of_mem _ hx)
    · rcases List.mem_cons.1 hx with rfl | hx
      · exact h (u, a) (List.mem_cons_self ..)
      · exact ih (fun z hz => h z (List.mem_cons_of_mem _ hz)) x hx
theorem putFold_pos (L : List WI) : ∀ {T : WTab}, (∀ x ∈ T, x.2 ≠ []) → ∀ x ∈ L.foldl tabPut T, x.2 ≠ [] := by
  induction L with
  | nil => intro T h; exact h
  | cons e L ih => intro T h; exact ih (tabPut_pos h e)
theorem flat_put (T : WTab) (e : WI) : (flatI (tabPut T e)).Perm (flatI T ++ [e]) := by
  induction T with
  | nil => exact .refl _
  | cons y T ih =>
    obtain ⟨u, a⟩ := y
    simp only [tabPut]
    by_cases c : u = e.1
    · subst c
      rw [if_pos rfl]
      unfold flatI
      simp only [List.flatMap_cons, List.map_append, List.map_cons, List.map_nil, List.append_assoc]
      exact List.Perm.append_left _ List.perm_append_comm
    · rw [if_neg c]
      unfold flatI at *
      simp only [List.flatMap_cons, List.append_assoc]
      exact List.Perm.append_left _ ih
theorem flat_fold (L : List WI) : ∀ (T : WTab), (flatI (L.foldl tabPut T)).Perm (flatI T ++ L) := by
  induction L with
  | nil => intro T; simp
  | cons e L ih =>
    intro T
    rw [List.foldl_cons]
    refine (ih _).trans ?_
    refine ((flat_put T e).append_right L).trans ?_
    simp
theorem tab_mem {T : WTab} (h : (T.map (·.1)).Nodup) (h2 : ∀ x ∈ T, x.2 ≠ []) (x : Bytes × List Int) : x ∈ T ↔ tabGet T x.1 = x.2 ∧ x.2 ≠ [] := by
  constructor
  · intro hx; exact ⟨tab_get h hx, h2 x hx⟩
  · rintro ⟨h3, h4⟩
    clear h h2
    induction T with
    | nil => simp only [tabGet] at h3; exact absurd h3.symm h4
    | cons y T ih =>
      obtain ⟨u, a⟩ := y
      simp only [tabGet] at h3
      split at h3
      · rename_i e
        exact List.mem_cons.2 (.inl (Prod.ext e.symm h3.symm))
      · exact List.mem_cons_of_mem _ (ih h3)
theorem srt_perm (l : List Int) : (srt l).Perm l := List.mergeSort_perm _ _
theorem srt_eq {l m : List Int} (hp : l.Perm m) (hs : m.Pairwise fun a b => a < b) : srt l = m := by
  have h1 : (srt l).Pairwise fun a b => decide (a ≤ b) = true := List.pairwise_mergeSort (fun a b c h1 h2 => by
    simp only [decide_eq_true_eq] at *; omega) (fun a b => by simp only [Bool.or_eq_true, decide_eq_true_eq]; omega) l
  refine List.Perm.eq_of_pairwise (le := fun a b : Int => a ≤ b) ?_ (h1.imp fun {a b} q => by simpa using q) (hs.imp fun {a b} q => by omega) ((srt_perm l).trans hp)
  intro a b _ _ h3 h4; omega
theorem findW_asc (s w : Bytes) : (findW s w).Pairwise fun a b => a < b := by
  have h1 : (fromW s 0).Pairwise fun a b => a.2 < b.2 := by
    unfold fromW
    refine List.pairwise_filterMap.2 ?_
    refine (List.pairwise_lt_range' (s := 0) (n := s.length - 0) (step := 1)).imp fun {a b} q x hx y hy => ?_
    unfold entW at hx hy
    split at hx <;> cases hx
    split at hy <;> cases hy
    exact q
  unfold findW
  refine List.pairwise_map.2 ((h1.filter _).imp fun {a b} q => by omega)
theorem intE_find (s w : Bytes) : ((intE (fromW s 0)).filter fun e => e.1 = w).map (·.2) = findW s w := by
  unfold intE findW
  rw [List.filter_map, List.map_map]
  rfl
/-- **What is noted in any order, sorted, is the list of the text's words.** -/
theorem WL_any {s : Bytes} {L : List WI} (h : L.Perm (intE (fromW s 0))) : WL (sortT (L.foldl tabPut [])) = WL (tabOf s) := by
  have n1 : (((L.foldl tabPut []) : WTab).map (·.1)).Nodup := putFold_nodup L List.nodup_nil
  have p1 : ∀ x ∈ (L.foldl tabPut [] : WTab), x.2 ≠ [] := putFold_pos L (fun x hx => by cases hx)
  have p0 : ∀ x ∈ tabOf s, x.2 ≠ [] := tabFold_pos _ (fun x hx => by cases hx)
  have hk : (sortT (L.foldl tabPut [])).map (·.1) = (L.foldl tabPut [] : WTab).map (·.1) := by unfold sortT; rw [List.map_map]; rfl
  have hg : ∀ w, srt (tabGet (L.foldl tabPut []) w) = findW s w := fun w => by
    refine srt_eq ?_ (findW_asc s w)
    rw [putFold_get]
    simp only [tabGet, List.nil_append]
    rw [← intE_find]
    exact (h.filter _).map _
  have nd : ∀ {T : WTab}, (T.map (·.1)).Nodup → T.Nodup := fun {T} h => List.nodup_iff_pairwise_ne.2 ((List.pairwise_map.1 (List.nodup_iff_pairwise_ne.1 h)).imp fun {a b} q e => q (by rw [e]))
  have hp : (sortT (L.foldl tabPut [])).Perm (tabOf s) := by
    refine (List.perm_ext_iff_of_nodup (nd (by rw [hk]; exact n1)) (nd (tabOf_nodup s))).2 fun x => ?_
    rw [tab_mem (tabOf_nodup s) p0, tabGet_of]
    unfold sortT
    rw [List.mem_map]
    constructor
    · rintro ⟨y, hy, rfl⟩
      have := (tab_mem n1 p1 y).1 hy
      refine ⟨?_, fun e => ?_⟩
      · show findW s y.1 = srt y.2
        rw [← hg, this.1]
      · have h3 := (srt_perm y.2).length_eq
        have e : srt y.2 = [] := e
        rw [e] at h3
        exact this.2 (List.length_eq_zero_iff.1 h3.symm)
    · rintro ⟨h1, h2⟩
      refine ⟨(x.1, tabGet (L.foldl tabPut []) x.1), (tab_mem n1 p1 _).2 ⟨rfl, fun e => ?_⟩, ?_⟩
      · have e : tabGet (L.foldl tabPut []) x.1 = [] := e
        have := hg x.1
        rw [e, h1] at this
        exact h2 (by rw [← this]; simp [srt])
      · show (x.1, srt (tabGet (L.foldl tabPut []) x.1)) = x
        rw [hg, h1]
  have hn : ((sortT (L.foldl tabPut [])).map (·.1)).Nodup := by rw [hk]; exact n1
  exact WL_eq ((WL_perm _).trans hp.symm) (WL_sorted (tabOf_nodup s))
/-! ### The change -/
noncomputable section
def moveW (lo hi by_ : Int) (x : WI) : Option WI := if x.2 < lo then some x else if hi ≤ x.2 then some (x.1, x.2 + by_) else none
end
theorem flatI_perm {T T' : WTab} (h : T.Perm T') : (flatI T).Perm (flatI T') := h.flatMap_right _
theorem flatI_of (s : Bytes) : (flatI (tabOf s)).Perm (intE (fromW s 0)) := by
  unfold tabOf
  rw [tabFold_put]
  exact flat_fold _ _
theorem intE_append (A B : List (Bytes × Nat)) : intE (A ++ B) = intE A ++ intE B := List.map_append ..
theorem mem_intE {E : List (Bytes × Nat)} {x : WI} (h : x ∈ intE E) : ∃ e ∈ E, x = (e.1, (e.2 : Int)) := by
  obtain ⟨e, he, rfl⟩ := List.mem_map.1 h
  exact ⟨e, he, rfl⟩
theorem filterMap_all {α : Type} {f : α → Option α} : ∀ {l : List α}, (∀ x ∈ l, f x = some x) → l.filterMap f = l
  | [], _ => rfl
  | a :: l, h => by
    rw [List.filterMap_cons, h a (List.mem_cons_self ..)]
    simp only
    rw [filterMap_all fun x hx => h x (List.mem_cons_of_mem _ hx)]
theorem filterMap_no {α β : Type} {f : α → Option β} : ∀ {l : List α}, (∀ x ∈ l, f x = none) → l.filterMap f = []
  | [], _ => rfl
  | a :: l, h => by
    rw [List.filterMap_cons, h a (List.mem_cons_self ..)]
    exact filterMap_no fun x hx => h x (List.mem_cons_of_mem _ hx)
theorem fromW_three {A m C : Bytes} (h1 : apart A (m ++ C)) (h2 : apart m C) : fromW (A ++ (m ++ C)) 0 = fromW A 0 ++ (shiftW A.length (fromW m 0) ++ shiftW (A.length + m.length) (fromW C 0)) := by
  rw [fromW_app h1, fromW_app h2]
  congr 1
  unfold shiftW
  rw [List.map_append, List.map_map]
  congr 1
  exact List.map_congr_left fun e _ => by simp only [Function.comp, Nat.add_assoc]
theorem drop_take_split (s : Bytes) (lo hi : Nat) (h : lo ≤ hi) : s = s.take lo ++ ((s.take hi).drop lo ++ s.drop hi) := by
  have e : s.take lo ++ (s.take hi).drop lo = s.take hi := by
    have : s.take lo = (s.take hi).take lo := by rw [List.take_take, Nat.min_eq_left h]
    rw [this, List.take_append_drop]
  rw [← List.append_assoc, e, List.take_append_drop]
/-- **What stays, moved, and what comes anew, is what the changed text has.** -/
theorem update_perm {s : Bytes} {e : Edit} (h : editMay s.length e) {lo hi : Nat} (hlo : lo = arLo s e.1.toNat) (hhi : hi = arHi s (e.1 + e.2.1).toNat) {by_ : Int} (hby : by_ = e.2.2.length - e.2.1) :
    lo ≤ hi ∧ hi ≤ s.length ∧ 0 ≤ (hi : Int) + by_ ∧ lo ≤ ((hi : Int) + by_).toNat ∧ ((hi : Int) + by_).toNat ≤ (editMade s e).length ∧
    ((flatI (WL (tabOf s))).filterMap (moveW lo hi by_) ++ intE (shiftW lo (fromW (((editMade s e).take ((hi : Int) + by_).toNat).drop lo) 0))).Perm (intE (fromW (editMade s e) 0)) := by
  have hm := editMay_iff.1 h
  have hml := editMade_len h
  obtain ⟨a, c, p⟩ := e
  dsimp only at *
  have l1 := arLo_le s a.toNat
  have l2 := arLo_end s a.toNat
  have l3 := arHi_le (s := s) (n := (a + c).toNat) (by omega)
  have l4 := arHi_end (s := s) (n := (a + c).toNat) (by omega)
  rw [← hlo] at l1 l2
  rw [← hhi] at l3 l4
  have hle : lo ≤ hi := by omega
  obtain ⟨M, hM⟩ : ∃ M : Bytes, M = (s.take a.toNat).drop lo ++ (p ++ (s.take hi).drop (a + c).toNat) := ⟨_, rfl⟩
  have hMl : (M.length : Int) = hi + by_ - lo := by
    rw [hM, List.length_append, List.length_append, List.length_drop, List.length_drop, List.length_take, List.length_take]; omega
  have made : editMade s (a, c, p) = s.take lo ++ (M ++ s.drop hi) := by
    unfold editMade
    have e1 : s.take a.toNat = s.take lo ++ (s.take a.toNat).drop lo := by
      have : s.take lo = (s.take a.toNat).take lo := by rw [List.take_take, Nat.min_eq_left (by omega)]
      rw [this, List.take_append_drop]
    have e2 : s.drop (a + c).toNat = (s.take hi).drop (a + c).toNat ++ s.drop hi := by
      have h0 := drop_take_split s (a + c).toNat hi (by omega)
      have h1 : (s.take (a + c).toNat ++ ((s.take hi).drop (a + c).toNat ++ s.drop hi)).drop (a + c).toNat = (s.take hi).drop (a + c).toNat ++ s.drop hi := List.drop_left' (by rw [List.length_take]; omega)
      rwa [← h0] at h1
    show s.take a.toNat ++ p ++ s.drop (a + c).toNat = _
    rw [e2, hM]
    conv => lhs; rw [e1]
    simp only [List.append_assoc]
  have hAl : (s.take lo).length = lo := by rw [List.length_take]; omega
  have apA : ∀ Y, apart (s.take lo) Y := fun Y => by
    rcases l2 with l2 | l2
    · left; rw [l2]; rfl
    · by_cases z : lo = 0
      · left; rw [z]; rfl
      · right; left
        rw [hAl]
        have : gt (s.take lo) ((lo : Int) - 1) = gt s ((lo : Int) - 1) := by
          have h0 : s.take lo ++ s.drop lo = s := List.take_append_drop lo s
          conv => rhs; rw [← h0]
          rw [gt_append_l (by omega) (by omega)]
        rw [this]; exact l2
  have apC : ∀ X, apart X (s.drop hi) := fun X => by
    rcases l4 with l4 | l4
    · right; right; left; rw [l4]; exact List.drop_length ..
    · right; right; right
      have : gt (s.drop hi) 0 = gt s (hi : Int) := by
        unfold gt; simp [List.getD, List.getElem?_drop]
      rw [this]; exact l4
  have f1 := fromW_three (apA (M ++ s.drop hi)) (apC M)
  have f0 := fromW_three (apA ((s.take hi).drop lo ++ s.drop hi)) (apC ((s.take hi).drop lo))
  rw [← drop_take_split s lo hi hle] at f0
  rw [← made] at f1
  have hm0 : ((s.take hi).drop lo).length = hi - lo := by rw [List.length_drop, List.length_take]; omega
  rw [hAl] at f0 f1
  rw [hm0, show lo + (hi - lo) = hi by omega] at f0
  have hu : ((editMade s (a, c, p)).take ((hi : Int) + by_).toNat).drop lo = M := by
    rw [made, ← List.append_assoc, List.take_left' (by rw [List.length_append, hAl]; omega)]
    exact List.drop_left' hAl
  refine ⟨hle, by omega, by omega, by omega, by omega, ?_⟩
  rw [hu, f1]
  have hp : (flatI (WL (tabOf s))).Perm (intE (fromW s 0)) := (flatI_perm (WL_perm _)).trans (flatI_of s)
  have hq := hp.filterMap (moveW (lo : Int) (hi : Int) by_)
  have hv : (intE (fromW s 0)).filterMap (moveW (lo : Int) (hi : Int) by_) = intE (fromW (s.take lo) 0) ++ intE (shiftW (lo + M.length) (fromW (s.drop hi) 0)) := by
    rw [f0, intE_append, intE_append, List.filterMap_append, List.filterMap_append]
    have g1 : (intE (fromW (s.take lo) 0)).filterMap (moveW (lo : Int) (hi : Int) by_) = intE (fromW (s.take lo) 0) := filterMap_all fun x hx => by
      obtain ⟨e, he, rfl⟩ := mem_intE hx
      have := (fromW_lt he).1
      rw [hAl] at this
      unfold moveW; rw [if_pos (by show (e.2 : Int) < lo; omega)]
    have g2 : (intE (shiftW lo (fromW ((s.take hi).drop lo) 0))).filterMap (moveW (lo : Int) (hi : Int) by_) = [] := filterMap_no fun x hx => by
      obtain ⟨e, he, rfl⟩ := mem_intE hx
      obtain ⟨e', he', rfl⟩ := List.mem_map.1 he
      have := (fromW_lt he').1
      rw [hm0] at this
      unfold moveW; rw [if_neg (by show ¬ ((lo + e'.2 : Nat) : Int) < lo; omega), if_neg (by show ¬ (hi : Int) ≤ ((lo + e'.2 : Nat) : Int); omega)]
    rw [g1, g2, List.nil_append]
    congr 1
    unfold intE shiftW
    simp only [List.map_map]
    rw [List.filterMap_map]
    rw [← List.filterMap_eq_map]
    refine filterMap_same fun e he => ?_
    simp only [Function.comp, moveW]
    rw [if_neg (by omega), if_pos (by omega)]
    congr 2
    omega
  rw [hv] at hq
  rw [intE_append, intE_append]
  refine (hq.append_right _).trans ?_
  rw [List.append_assoc]
  exact List.Perm.append_left _ List.perm_append_comm
/-- **The changed text's list.** -/
theorem update_list {s : Bytes} {e : Edit} (h : editMay s.length e) {lo hi : Nat} (hlo : lo = arLo s e.1.toNat) (hhi : hi = arHi s (e.1 + e.2.1).toNat) {by_ : Int} (hby : by_ = e.2.2.length - e.2.1) :
    WL (sortT ((intE (shiftW lo (fromW (((editMade s e).take ((hi : Int) + by_).toNat).drop lo) 0))).foldl tabPut (((flatI (WL (tabOf s))).filterMap (moveW lo hi by_)).foldl tabPut []))) = WL (tabOf (editMade s e)) := by
  rw [← List.foldl_append]
  exact WL_any (update_perm h hlo hhi hby).2.2.2.2.2
theorem wordsUpdate_fit {s : Bytes} {l : WTab} {e : Edit} : wtFit (wordsUpdate s l e).1 := by
  unfold wordsUpdate
  split
  · exact ⟨Nat.zero_le _, fun x hx => by cases hx⟩
  split
  · exact ⟨Nat.zero_le _, fun x hx => by cases hx⟩
  split
  · exact ⟨Nat.zero_le _, fun x hx => by cases hx⟩
  · rename_i h1 h2 h3
    have hm : editMay s.length e := Classical.byContradiction h3
    have hml := editMade_len hm
    have hi := editMay_iff.1 hm
    have := wordsAll_fit (s := editMade s e)
    unfold wordsAll at this
    rwa [if_neg (by omega)] at this
end Go.Fu
