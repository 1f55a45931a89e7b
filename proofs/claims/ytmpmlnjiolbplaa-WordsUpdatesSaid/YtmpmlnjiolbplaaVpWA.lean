/-
  Words: which stand where, and a table of them.
-/
import Derived.Test.YtmpmlnjiolbplaaVpC
set_option linter.unusedVariables false
set_option linter.unusedSimpArgs false
namespace Go.Fu
open Go.Vc
noncomputable section
def isP (c : UInt8) : Bool := (97 ≤ c.toNat && c.toNat ≤ 122) || (65 ≤ c.toNat && c.toNat ≤ 90) || (48 ≤ c.toNat && c.toNat ≤ 57)
/-- How far a word goes on from a place. -/
def runL (s : Bytes) (i : Nat) : Nat := ((s.drop i).takeWhile isP).length
/-- Does none that goes on begin ahead of a place? -/
def opens (s : Bytes) (i : Nat) : Prop := i = 0 ∨ isP (gt s ((i : Int) - 1)) = false
def wordOf (s : Bytes) (i : Nat) : Bytes := open Classical in if opens s i ∧ runL s i ≤ 12 then (s.drop i).take (runL s i) else []
def entW (s : Bytes) (i : Nat) : Option (Bytes × Nat) := if wordOf s i = [] then none else some (wordOf s i, i)
def fromW (s : Bytes) (k : Nat) : List (Bytes × Nat) := (List.range' k (s.length - k)).filterMap (entW s)
def isWord (w : Bytes) : Prop := w ≠ [] ∧ w.length ≤ 12 ∧ ∀ c ∈ w, isP c = true
def tabAdd (T : List (Bytes × List Int)) (e : Bytes × Nat) : List (Bytes × List Int) :=
  match T with
  | [] => [(e.1, [(e.2 : Int)])]
  | (w, a) :: T => if w = e.1 then (w, a ++ [(e.2 : Int)]) :: T else (w, a) :: tabAdd T e
def tabGet (T : List (Bytes × List Int)) (w : Bytes) : List Int :=
  match T with
  | [] => []
  | (u, a) :: T => if u = w then a else tabGet T w
def tabOf (s : Bytes) : List (Bytes × List Int) := (fromW s 0).foldl tabAdd []
def findW (s w : Bytes) : List Int := ((fromW s 0).filter fun e => e.1 = w).map fun e => (e.2 : Int)
def wordsFind (s w : Bytes) : List Int × Int := open Classical in if ¬ isWord w then ([], 4) else if 600 < s.length then ([], 1) else (findW s w, 0)
def partI (c : Int) : Prop := (97 ≤ c ∧ c ≤ 122) ∨ (65 ≤ c ∧ c ≤ 90) ∨ (48 ≤ c ∧ c ≤ 57)
def words_part_ct : Ct := ⟨tys1 (.int .u8), [.val .bool], fun _ => True, fun c => bo (partI c)⟩
def ref_letter_ct : Ct := words_part_ct
def words_Noted_ct : Ct := ⟨tys1 .str, [.val .bool], fun w => fitS w, fun w => bo (isWord w)⟩
abbrev watPre (s : Bytes) (i : Int) : Prop := fitS s ∧ 0 ≤ i ∧ i ≤ s.length
def wordAt (s : Bytes) (i : Int) : Bytes := wordOf s i.toNat
def ref_wordAt_ct : Ct := ⟨tys2 .str tI, [.val .str], fun x => watPre x.1 x.2, fun x => wordAt x.1 x.2⟩
def words_Find_ct : Ct := ⟨tys2 .str .str, [.own tI, .val tI], fun x => fitS x.1 ∧ fitS x.2, fun x => wordsFind x.1 x.2⟩
def ref_WordsFind_ct : Ct := words_Find_ct
end
theorem part_iff (c : UInt8) : isP c = true ↔ partI (c.toNat : Int) := by
  unfold isP partI
  simp only [Bool.or_eq_true, Bool.and_eq_true, decide_eq_true_eq]
  omega
theorem part_not (c : UInt8) : isP c = false ↔ ¬ partI (c.toNat : Int) := by rw [← part_iff]; simp
theorem tabGet_add (T : List (Bytes × List Int)) (e : Bytes × Nat) (w : Bytes) : tabGet (tabAdd T e) w = tabGet T w ++ if e.1 = w then [(e.2 : Int)] else [] := by
  induction T with
  | nil => simp only [tabAdd, tabGet, List.nil_append]
  | cons x T ih =>
    obtain ⟨u, a⟩ := x
    simp only [tabAdd]
    by_cases h : u = e.1
    · rw [if_pos h]
      simp only [tabGet]
      by_cases g : u = w
      · rw [if_pos g, if_pos g, if_pos (by rw [← h]; exact g)]
      · rw [if_neg g, if_neg g, if_neg (by rw [← h]; exact g), List.append_nil]
    · rw [if_neg h]
      simp only [tabGet]
      by_cases g : u = w
      · rw [if_pos g, if_pos g, if_neg (by rw [← g]; exact fun q => h q.symm), List.append_nil]
      · rw [if_neg g, if_neg g, ih]
theorem tabGet_fold (L : List (Bytes × Nat)) (T : List (Bytes × List Int)) (w : Bytes) : tabGet (L.foldl tabAdd T) w = tabGet T w ++ (L.filter fun e => e.1 = w).map fun e => (e.2 : Int) := by
  induction L generalizing T with
  | nil => simp
  | cons e L ih =>
    rw [List.foldl_cons, ih, tabGet_add, List.append_assoc]
    congr 1
    by_cases h : e.1 = w
    · simp [h]
    · simp [h]
theorem tabGet_of (s w : Bytes) : tabGet (tabOf s) w = findW s w := by
  unfold tabOf findW
  rw [tabGet_fold]
  simp [tabGet]
theorem runL_le (s : Bytes) (i : Nat) : runL s i ≤ s.length - i := by
  unfold runL
  have := (List.takeWhile_prefix (l := s.drop i) isP).length_le
  rwa [List.length_drop] at this
theorem takeWhile_at {α : Type} (p : α → Bool) : ∀ (l : List α) (j : Nat) (x : α), j < (l.takeWhile p).length → l[j]? = some x → p x = true
  | [], _, _, h, _ => by simp at h
  | a :: l, j, x, h, hx => by
    rw [List.takeWhile_cons] at h
    split at h
    · rename_i ha
      cases j with
      | zero => simp at hx; subst hx; exact ha
      | succ j => exact takeWhile_at p l j x (by simpa using h) (by simpa using hx)
    · simp at h
theorem takeWhile_end {α : Type} (p : α → Bool) : ∀ (l : List α) (x : α), l[(l.takeWhile p).length]? = some x → p x = false
  | [], _, h => by simp at h
  | a :: l, x, h => by
    rw [List.takeWhile_cons] at h
    split at h
    · simp only [List.length_cons, List.getElem?_cons_succ] at h
      exact takeWhile_end p l x h
    · rename_i ha
      simp at h; subst h; simpa using ha
theorem run_at {s : Bytes} {i j : Nat} (h : j < runL s i) : isP (gt s ((i + j : Nat) : Int)) = true := by
  have hl := runL_le s i
  have hg := gt_get? (l := s) (i := ((i + j : Nat) : Int)) (by omega) (by omega)
  rw [Int.toNat_natCast] at hg
  exact takeWhile_at isP (s.drop i) j _ h (by rw [List.getElem?_drop]; exact hg)
theorem run_end {s : Bytes} {i : Nat} (h : i + runL s i < s.length) : isP (gt s ((i + runL s i : Nat) : Int)) = false := by
  have hg := gt_get? (l := s) (i := ((i + runL s i : Nat) : Int)) (by omega) (by omega)
  rw [Int.toNat_natCast] at hg
  exact takeWhile_end isP (s.drop i) _ (by rw [List.getElem?_drop]; exact hg)
/-- So far as it goes on and no further: that is the run. -/
theorem run_eq {s : Bytes} {i L : Nat} (h1 : i + L ≤ s.length) (h2 : ∀ j, j < L → isP (gt s ((i + j : Nat) : Int)) = true) (h3 : i + L = s.length ∨ isP (gt s ((i + L : Nat) : Int)) = false) : runL s i = L := by
  have hl := runL_le s i
  rcases Nat.lt_trichotomy (runL s i) L with c | c | c
  · have := run_end (s := s) (i := i) (by omega)
    rw [h2 _ c] at this; cases this
  · exact c
  · have := run_at c
    rcases h3 with h3 | h3
    · omega
    · rw [h3] at this; cases this
theorem wordOf_shut {s : Bytes} {i : Nat} (h : ¬ opens s i) : wordOf s i = [] := by unfold wordOf; rw [if_neg (fun q => h q.1)]
theorem wordOf_open {s : Bytes} {i : Nat} (h : opens s i) : wordOf s i = if runL s i ≤ 12 then (s.drop i).take (runL s i) else [] := by
  unfold wordOf
  by_cases c : runL s i ≤ 12
  · rw [if_pos ⟨h, c⟩, if_pos c]
  · rw [if_neg (fun q => c q.2), if_neg c]
theorem entW_shut {s : Bytes} {i : Nat} (h : ¬ opens s i) : entW s i = none := by
  unfold entW; rw [if_pos (wordOf_shut h)]
theorem entW_open {s : Bytes} {i : Nat} (h : opens s i) : entW s i = if 0 < runL s i ∧ runL s i ≤ 12 then some ((s.drop i).take (runL s i), i) else none := by
  have hl := runL_le s i
  unfold entW
  rw [wordOf_open h]
  by_cases c : runL s i ≤ 12
  · rw [if_pos c]
    by_cases z : 0 < runL s i
    · rw [if_pos (⟨z, c⟩ : 0 < runL s i ∧ runL s i ≤ 12), if_neg]
      intro e
      have := congrArg List.length e
      rw [List.length_take, List.length_drop] at this
      simp at this; omega
    · rw [if_neg (fun q : 0 < runL s i ∧ runL s i ≤ 12 => z q.1), if_pos]
      have : runL s i = 0 := by omega
      rw [this]; rfl
  · rw [if_neg c, if_neg (fun q : 0 < runL s i ∧ runL s i ≤ 12 => c q.2), if_pos rfl]
theorem fromW_end {s : Bytes} {k : Nat} (h : s.length ≤ k) : fromW s k = [] := by
  unfold fromW; rw [show s.length - k = 0 by omega]; rfl
theorem fromW_one {s : Bytes} {k : Nat} (h : k < s.length) : fromW s k = (entW s k).toList ++ fromW s (k + 1) := by
  unfold fromW
  rw [show s.length - k = (s.length - (k + 1)) + 1 by omega, List.range'_succ, List.filterMap_cons]
  cases entW s k <;> rfl
theorem fromW_shut {s : Bytes} {k : Nat} : ∀ (n : Nat), k + n ≤ s.length → (∀ j, k ≤ j → j < k + n → entW s j = none) → fromW s k = fromW s (k + n)
  | 0, _, _ => rfl
  | n + 1, h, g => by
    rw [fromW_shut n (by omega) (fun j h1 h2 => g j h1 (by omega)), fromW_one (by omega), g (k + n) (by omega) (by omega)]
    rfl
/-- A word and what comes behind it. -/
theorem fromW_next {s : Bytes} {k : Nat} (h : k < s.length) (ho : opens s k) : fromW s k = (if 0 < runL s k ∧ runL s k ≤ 12 then [((s.drop k).take (runL s k), k)] else []) ++ fromW s (k + runL s k + 1) := by
  have hl := runL_le s k
  have hs : ∀ j, k + 1 ≤ j → j < k + 1 + runL s k → entW s j = none := fun j h1 h2 => entW_shut fun q => by
    rcases q with q | q
    · omega
    · have := run_at (s := s) (i := k) (j := j - 1 - k) (by omega)
      rw [show ((k + (j - 1 - k) : Nat) : Int) = (j : Int) - 1 by omega, q] at this
      cases this
  rw [fromW_one h, entW_open ho]
  have e : fromW s (k + 1) = fromW s (k + runL s k + 1) := by
    rcases Nat.lt_or_ge (k + runL s k) s.length with c | c
    · rw [fromW_shut (runL s k) (by omega) hs]; congr 1; omega
    · have : k + runL s k = s.length := by omega
      rw [fromW_end (k := k + runL s k + 1) (by omega)]
      rw [fromW_shut (s.length - (k + 1)) (by omega) (fun j h1 h2 => hs j h1 (by omega)), fromW_end (by omega)]
  rw [e]
  split <;> rfl
theorem opens_next {s : Bytes} {k : Nat} (h : k + runL s k < s.length) : opens s (k + runL s k + 1) := .inr (by
  have := run_end h
  rw [show ((k + runL s k + 1 : Nat) : Int) - 1 = ((k + runL s k : Nat) : Int) by omega]; exact this)
theorem fromW_lt {s : Bytes} {k : Nat} {e : Bytes × Nat} (h : e ∈ fromW s k) : e.2 < s.length ∧ e.1.length ≤ 12 ∧ e.1 = wordOf s e.2 ∧ e.1 ≠ [] := by
  unfold fromW at h
  obtain ⟨i, hi, he⟩ := List.mem_filterMap.1 h
  rw [List.mem_range'_1] at hi
  unfold entW at he
  split at he
  · cases he
  · rename_i hw
    cases he
    refine ⟨by show i < _; omega, ?_, rfl, hw⟩
    show (wordOf s i).length ≤ 12
    unfold wordOf
    split
    · rename_i q; rw [List.length_take]; omega
    · simp
theorem findW_len (s w : Bytes) : (findW s w).length ≤ s.length := by
  unfold findW
  rw [List.length_map]
  refine Nat.le_trans (List.length_filter_le _ _) ?_
  unfold fromW
  refine Nat.le_trans (List.length_filterMap_le _ _) ?_
  simp
/-- One place after the other. -/
theorem findW_each {s w : Bytes} (hw : w ≠ []) : findW s w = ((List.range s.length).filter fun i : Nat => wordOf s i = w).map fun i : Nat => (i : Int) := by
  unfold findW fromW
  rw [Nat.sub_zero, List.range_eq_range']
  generalize List.range' 0 s.length = L
  induction L with
  | nil => rfl
  | cons i L ih =>
    rw [List.filterMap_cons]
    unfold entW
    by_cases c : wordOf s i = []
    · rw [if_pos c, List.filter_cons, if_neg (by rw [c]; simpa using hw.symm)]
      exact ih
    · rw [if_neg c]
      simp only [List.filter_cons]
      by_cases g : wordOf s i = w
      · rw [if_pos (by simpa using g), if_pos (by simpa using g), List.map_cons, List.map_cons]
        exact congrArg _ ih
      · rw [if_neg (by simpa using g), if_neg (by simpa using g)]
        exact ih
theorem isWord_at (w : Bytes) : isWord w ↔ w ≠ [] ∧ wordAt w 0 = w := by
  have hl := runL_le w 0
  have e : wordAt w 0 = if runL w 0 ≤ 12 then w.take (runL w 0) else [] := wordOf_open (.inl rfl)
  rw [e]
  constructor
  · rintro ⟨h1, h2, h3⟩
    have hr : runL w 0 = w.length := run_eq (by omega) (fun j hj => h3 _ (gt_mem (by omega) (by omega))) (.inl (by omega))
    refine ⟨h1, ?_⟩
    rw [hr, if_pos h2, List.take_length]
  · rintro ⟨h1, h2⟩
    split at h2
    · rename_i c
      have hr : runL w 0 = w.length := by
        have := congrArg List.length h2
        rw [List.length_take] at this; omega
      refine ⟨h1, by omega, fun c hc => ?_⟩
      obtain ⟨i, i0, i1, rfl⟩ := mem_gt hc
      have := run_at (s := w) (i := 0) (j := i.toNat) (by omega)
      rwa [show ((0 + i.toNat : Nat) : Int) = i by omega] at this
    · exact absurd h2.symm h1
end Go.Fu
