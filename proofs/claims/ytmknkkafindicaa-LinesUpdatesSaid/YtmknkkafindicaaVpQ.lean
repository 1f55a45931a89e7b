/-
  Where lines begin behind an edit.
-/
import Derived.Test.YtmknkkafindicaaVpC
import Derived.Test.YtmknkkafindicaaVpK
set_option linter.unusedVariables false
set_option linter.unusedSimpArgs false
namespace Go.Fu
open Go.Vc
noncomputable section
theorem startsFrom_app : ∀ (a b : Bytes) (i : Int), startsFrom i (a ++ b) = startsFrom i a ++ startsFrom (i + a.length) b
  | [], b, i => by simp [startsFrom]
  | c :: a, b, i => by
    simp only [List.cons_append, startsFrom, startsFrom_app a b, List.length_cons]
    rw [show i + 1 + (a.length : Int) = i + ((a.length + 1 : Nat) : Int) by omega]
    split <;> simp
theorem startsFrom_shift : ∀ (s : Bytes) (i d : Int), startsFrom (i + d) s = (startsFrom i s).map (· + d)
  | [], i, d => by simp [startsFrom]
  | c :: s, i, d => by
    have := startsFrom_shift s (i + 1) d
    simp only [startsFrom]
    rw [show i + d + 1 = i + 1 + d by omega, this]
    split
    · simp
    · rfl
theorem startsFrom_mem : ∀ (s : Bytes) (i x : Int), x ∈ startsFrom i s → i < x ∧ x ≤ i + s.length
  | [], i, x, h => by simp [startsFrom] at h
  | c :: s, i, x, h => by
    simp only [startsFrom] at h
    have : x = i + 1 ∨ x ∈ startsFrom (i + 1) s := by
      split at h
      · simpa using h
      · exact .inr h
    simp only [List.length_cons]
    rcases this with e | e
    · omega
    · have := startsFrom_mem s (i + 1) x e; omega
theorem takeWhile_app {a b : List Int} {n : Int} (ha : ∀ x ∈ a, x ≤ n) (hb : ∀ x ∈ b, n < x) : ((a ++ b).takeWhile fun x => decide (x ≤ n)) = a ∧ ((a ++ b).dropWhile fun x => decide (x ≤ n)) = b := by
  induction a with
  | nil =>
    cases b with
    | nil => simp
    | cons x b =>
      have := hb x (by simp)
      simp [List.takeWhile, List.dropWhile, show ¬ x ≤ n by omega]
  | cons x a ih =>
    have h1 := ha x (by simp)
    obtain ⟨i1, i2⟩ := ih fun y hy => ha y (by simp [hy])
    simp [List.takeWhile, List.dropWhile, h1, i1, i2]
def linesUpdated (l : List Int) (e : Edit) : List Int :=
  (l.takeWhile fun x => decide (x ≤ e.1)) ++ startsFrom e.1 e.2.2 ++ (l.dropWhile fun x => decide (x ≤ e.1 + e.2.1)).map (· + ((e.2.2.length : Int) - e.2.1))
theorem startsOf_made {s : Bytes} {e : Edit} (h : editMay s.length e) : startsOf (editMade s e) = linesUpdated (startsOf s) e := by
  have m := editMay_iff.1 h
  have split1 : ∀ k : Int, 0 ≤ k → k ≤ s.length → startsOf s = (0 :: startsFrom 0 (s.take k.toNat)) ++ startsFrom k (s.drop k.toNat) := fun k h0 h1 => by
    have : s = s.take k.toNat ++ s.drop k.toNat := (List.take_append_drop _ _).symm
    simp only [startsOf]
    rw [this, startsFrom_app, ← this]
    simp only [List.length_take, Int.zero_add, List.cons_append]
    rw [show ((min k.toNat s.length : Nat) : Int) = k by omega]
  have cut : ∀ k : Int, 0 ≤ k → k ≤ s.length → ((startsOf s).takeWhile fun x => decide (x ≤ k)) = 0 :: startsFrom 0 (s.take k.toNat) ∧ ((startsOf s).dropWhile fun x => decide (x ≤ k)) = startsFrom k (s.drop k.toNat) := fun k h0 h1 => by
    rw [split1 k h0 h1]
    refine takeWhile_app (fun x hx => ?_) fun x hx => (startsFrom_mem _ _ _ hx).1
    simp only [List.mem_cons] at hx
    rcases hx with hx | hx
    · omega
    · have := (startsFrom_mem _ _ _ hx).2
      simp only [List.length_take] at this
      omega
  unfold linesUpdated
  rw [(cut e.1 (by omega) (by omega)).1, (cut (e.1 + e.2.1) (by omega) (by omega)).2, ← startsFrom_shift]
  simp only [startsOf, editMade, startsFrom_app, List.length_append, List.length_take, Int.zero_add, List.cons_append]
  rw [show ((min e.1.toNat s.length : Nat) : Int) = e.1 by omega, show ((min e.1.toNat s.length + e.2.2.length : Nat) : Int) = e.1 + e.2.1 + ((e.2.2.length : Int) - e.2.1) by omega]
/-! a text with just these lines -/
def textOf (l : List Int) (n : Int) : Bytes := (List.range n.toNat).map fun k : Nat => if ((k : Int) + 1) ∈ l then 10 else 120
theorem textOf_len {l : List Int} {n : Int} (h : 0 ≤ n) : ((textOf l n).length : Int) = n := by simp [textOf]; omega
theorem textOf_succ {l : List Int} {n : Int} (h : 0 ≤ n) : textOf l (n + 1) = textOf l n ++ [if (n + 1) ∈ l then 10 else 120] := by
  have : (n + 1).toNat = n.toNat + 1 := by omega
  simp only [textOf, this, List.range_succ, List.map_append, List.map_cons, List.map_nil]
  rw [show ((n.toNat : Int)) = n by omega]
theorem filter_succ {l : List Int} (h : l.Pairwise (· < ·)) (n : Int) : (l.filter fun x => decide (x ≤ n + 1)) = (l.filter fun x => decide (x ≤ n)) ++ if n + 1 ∈ l then [n + 1] else [] := by
  induction l with
  | nil => simp
  | cons a l ih =>
    obtain ⟨h1, h2⟩ := List.pairwise_cons.1 h
    have ih := ih h2
    simp only [List.filter_cons, List.mem_cons]
    rcases Int.lt_trichotomy a (n + 1) with c | c | c
    · rw [if_pos (by simp; omega), if_pos (by simp; omega), ih]
      simp [show ¬ n + 1 = a by omega]
    · subst c
      have e1 : (l.filter fun x => decide (x ≤ n + 1)) = [] := by
        rw [List.filter_eq_nil_iff]; intro x hx; have := h1 x hx; simp; omega
      have e2 : (l.filter fun x => decide (x ≤ n)) = [] := by
        rw [List.filter_eq_nil_iff]; intro x hx; have := h1 x hx; simp; omega
      simp [e1, e2]; omega
    · have e1 : (l.filter fun x => decide (x ≤ n + 1)) = [] := by
        rw [List.filter_eq_nil_iff]; intro x hx; have := h1 x hx; simp; omega
      have e2 : (l.filter fun x => decide (x ≤ n)) = [] := by
        rw [List.filter_eq_nil_iff]; intro x hx; have := h1 x hx; simp; omega
      have e3 : ¬ (n + 1 = a ∨ n + 1 ∈ l) := by
        rintro (e | e)
        · omega
        · have := h1 _ e; omega
      rw [if_neg (by simp; omega), if_neg (by simp; omega), if_neg e3, e1, e2]; rfl
theorem starts_text {l : List Int} (h : l.Pairwise (· < ·)) (h0 : ∀ x ∈ l, 0 < x) : ∀ n : Nat, startsFrom 0 (textOf l n) = l.filter fun x => decide (x ≤ (n : Int))
  | 0 => by
    have : (l.filter fun x => decide (x ≤ ((0 : Nat) : Int))) = [] := by
      rw [List.filter_eq_nil_iff]; intro x hx; have := h0 x hx; simp; omega
    rw [this]; simp [textOf, startsFrom]
  | n + 1 => by
    have ih := starts_text h h0 n
    have e : ((n + 1 : Nat) : Int) = (n : Int) + 1 := by omega
    rw [e, textOf_succ (by omega), startsFrom_app, ih, filter_succ h, textOf_len (by omega)]
    congr 1
    simp only [startsFrom, Int.zero_add]
    split
    · simp
    · simp [show ¬ (120 : UInt8) = 10 by decide]
theorem starts_pair {l : List Int} (h : ∀ i : Int, 0 < i → i < (l.length : Int) → gt l (i - 1) < gt l i) : l.Pairwise (· < ·) := by
  rw [List.pairwise_iff_getElem]
  intro i j hi hj hij
  have := starts_lt h (i := i) (j := j) (by omega) (by omega) (by omega)
  rwa [gt_nat_in hi, gt_nat_in hj] at this
theorem startsOf_text {l : List Int} {size : Int} (h : startsOk l) (h1 : gt l ((l.length : Int) - 1) ≤ size) : startsOf (textOf l size) = l := by
  obtain ⟨a1, a2, a3, a4⟩ := h
  obtain ⟨x, t, rfl⟩ := List.exists_cons_of_ne_nil a1
  have e0 : x = 0 := a2
  subst e0
  have pw := starts_pair a3
  obtain ⟨p1, p2⟩ := List.pairwise_cons.1 pw
  have hs : 0 ≤ size := by
    have : 0 ≤ gt (0 :: t) (((0 :: t).length : Int) - 1) := by
      have := gt_mem (l := 0 :: t) (i := ((0 :: t).length : Int) - 1) (by simp <;> omega) (by omega)
      simp only [List.mem_cons] at this
      rcases this with c | c
      · simp only [List.length_cons] at c ⊢; omega
      · have := p1 _ c; simp only [List.length_cons] at this ⊢; omega
    omega
  have tx : textOf (0 :: t) size = textOf t ((size.toNat : Nat) : Int) := by
    rw [show ((size.toNat : Nat) : Int) = size by omega]
    unfold textOf
    congr 1
    funext k
    simp [show ¬ (k : Int) + 1 = 0 by omega]
  simp only [startsOf]
  rw [tx, starts_text p2 (fun x hx => p1 x hx)]
  congr 1
  rw [List.filter_eq_self]
  intro y hy
  obtain ⟨j, j0, j1, rfl⟩ := mem_gt hy
  have hl : gt t j = gt (0 :: t) (j + 1) := by rw [gt_cons_pos (by omega)]; congr 1; omega
  simp only [decide_eq_true_eq]
  rcases Int.lt_or_le (j + 1) (((0 :: t).length : Int) - 1) with c | c
  · have := starts_lt a3 (i := j + 1) (j := ((0 :: t).length : Int) - 1) (by omega) c (by omega)
    omega
  · have : j + 1 = ((0 :: t).length : Int) - 1 := by simp only [List.length_cons] at *; omega
    rw [hl, this]; omega
def linesUpdate (l : List Int) (size : Int) (e : Edit) : List Int × Int :=
  open Classical in
  if ¬ startsOk l ∨ size < gt l ((l.length : Int) - 1) then ([], 4)
  else if editFault size e ≠ 0 then ([], editFault size e)
  else (linesUpdated l e, 0)
abbrev updPre (e : Edit) : Prop := 0 ≤ e.1 ∧ e.1 ≤ 600 ∧ 0 ≤ e.2.1 ∧ e.2.1 ≤ 600 ∧ e.2.2.length ≤ 1200
def lines_Updated_ct : Ct := ⟨tys2 (.sl tI) tEdit, [.own tI], fun x => startsOk x.1 ∧ fitL x.1 ∧ updPre x.2, fun x => linesUpdated x.1 x.2⟩
def lines_Update_ct : Ct := ⟨tys3 (.sl tI) tI tEdit, [.own tI, .val tI], fun x => fitL x.1 ∧ inI64 x.2.1 ∧ editFits x.2.2, fun x => linesUpdate x.1 x.2.1 x.2.2⟩
def ref_LinesUpdate_ct : Ct := lines_Update_ct
abbrev riseOk (l : List Int) : Prop := l.Pairwise (· < ·)
def searchAt (l : List Int) (n : Int) : Int := ((l.takeWhile fun y => decide (y < n)).length : Int)
def sort_SearchInts_ct : Ct := ⟨tys2 (.sl tI) tI, [.val tI], fun x => fitL x.1 ∧ riseOk x.1, fun x => searchAt x.1 x.2⟩
theorem searchAt_le (l : List Int) (n : Int) : searchAt l (n + 1) = ((l.takeWhile fun y => decide (y ≤ n)).length : Int) := by
  unfold searchAt
  congr 3
  funext y
  simp only [decide_eq_decide]; omega
theorem search_bd (l : List Int) (n : Int) : 0 ≤ searchAt l n ∧ searchAt l n ≤ l.length := by
  unfold searchAt
  have := congrArg List.length (List.takeWhile_append_dropWhile (p := fun y => decide (y < n)) (l := l))
  rw [List.length_append] at this
  omega
theorem search_take (l : List Int) (n : Int) : l.take (searchAt l (n + 1)).toNat = l.takeWhile fun y => decide (y ≤ n) := by
  rw [searchAt_le, Int.toNat_natCast]
  have := List.takeWhile_append_dropWhile (p := fun y => decide (y ≤ n)) (l := l)
  calc l.take (l.takeWhile fun y => decide (y ≤ n)).length = (l.takeWhile (fun y => decide (y ≤ n)) ++ l.dropWhile fun y => decide (y ≤ n)).take (l.takeWhile fun y => decide (y ≤ n)).length := by rw [this]
    _ = _ := List.take_left
theorem search_drop (l : List Int) (n : Int) : l.drop (searchAt l (n + 1)).toNat = l.dropWhile fun y => decide (y ≤ n) := by
  rw [searchAt_le, Int.toNat_natCast]
  have := List.takeWhile_append_dropWhile (p := fun y => decide (y ≤ n)) (l := l)
  calc l.drop (l.takeWhile fun y => decide (y ≤ n)).length = (l.takeWhile (fun y => decide (y ≤ n)) ++ l.dropWhile fun y => decide (y ≤ n)).drop (l.takeWhile fun y => decide (y ≤ n)).length := by rw [this]
    _ = _ := List.drop_left
theorem searchAt_eq {l : List Int} {n i : Int} (h0 : 0 ≤ i) (h1 : i ≤ l.length) (h2 : ∀ k, 0 ≤ k → k < i → gt l k < n) (h3 : i < l.length → n ≤ gt l i) : searchAt l n = i := by
  have := searchAt_le l (n - 1)
  rw [show n - 1 + 1 = n by omega] at this
  rw [this, takeWhile_count h0 h1 (fun k a b => by have := h2 k a b; omega) fun t => by have := h3 t; omega]
theorem pair_lt {l : List Int} (h : l.Pairwise (· < ·)) {i j : Int} (h0 : 0 ≤ i) (h1 : i < j) (h2 : j < l.length) : gt l i < gt l j := by
  rw [List.pairwise_iff_getElem] at h
  rw [gt_in h0 (by omega), gt_in (by omega) h2]
  exact h _ _ (by omega) (by omega) (by omega)
theorem starts_bd {l : List Int} (h : startsOk l) {i : Int} (h0 : 0 ≤ i) (h1 : i < l.length) : i ≤ gt l i ∧ gt l i ≤ 600 := by
  obtain ⟨a1, a2, a3, a4⟩ := h
  have lo : ∀ n : Nat, (n : Int) < l.length → (n : Int) ≤ gt l n := by
    intro n
    induction n with
    | zero => intro _; rw [show ((0 : Nat) : Int) = 0 from rfl, a2]; omega
    | succ n ih =>
      intro hn
      have := ih (by omega)
      have := a3 ((n + 1 : Nat) : Int) (by omega) hn
      rw [show ((n + 1 : Nat) : Int) - 1 = n by omega] at this
      omega
  have := lo i.toNat (by omega)
  rw [show ((i.toNat : Nat) : Int) = i by omega] at this
  refine ⟨this, ?_⟩
  rcases Int.lt_or_le i ((l.length : Int) - 1) with c | c
  · have := starts_lt a3 (i := i) (j := (l.length : Int) - 1) h0 c (by omega); omega
  · rw [show i = (l.length : Int) - 1 by omega]; exact a4
theorem starts_len {l : List Int} (h : startsOk l) : l.length ≤ 601 := by
  have := List.length_pos_iff.2 h.1
  have := starts_bd h (i := (l.length : Int) - 1) (by omega) (by omega)
  omega
theorem starts_mem {l : List Int} (h : startsOk l) {x : Int} (hx : x ∈ l) : 0 ≤ x ∧ x ≤ 600 := by
  obtain ⟨j, j0, j1, rfl⟩ := mem_gt hx
  have := starts_bd h j0 j1
  omega
theorem linesUpdated_len {l : List Int} {e : Edit} (h : startsOk l) (he : e.2.2.length ≤ 1200) : (linesUpdated l e).length ≤ 3000 := by
  have hl := starts_len h
  have f : ∀ (s : Bytes) (i : Int), (startsFrom i s).length ≤ s.length := by
    intro s
    induction s with
    | nil => intro i; simp [startsFrom]
    | cons c s ih =>
      intro i
      have := ih (i + 1)
      simp only [startsFrom, List.length_cons]
      split
      · simp; omega
      · omega
  have := f e.2.2 e.1
  have a := (List.takeWhile_sublist (p := fun y => decide (y ≤ e.1)) (l := l)).length_le
  have b := (List.dropWhile_sublist (p := fun y => decide (y ≤ e.1 + e.2.1)) (l := l)).length_le
  simp only [linesUpdated, List.length_append, List.length_map]
  omega
theorem linesUpdate_len (l : List Int) (size : Int) (e : Edit) : fitL (linesUpdate l size e).1 := by
  unfold linesUpdate fitL
  split
  · simp
  · split
    · simp
    · rename_i h1 h2
      have h1 := Classical.byContradiction fun c => h1 (.inl c)
      have m := editMay_iff.1 (Classical.byContradiction h2 : editFault size e = 0)
      have := linesUpdated_len (e := e) h1 (by omega)
      simp only
      omega
end
end Go.Fu
