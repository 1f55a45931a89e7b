/-
  Turns of tasks: the tasks in their order, and the tasks by number with how long each stood.
-/
import Derived.Test.YtcgggoaefceokaaVpH
set_option linter.unusedVariables false
set_option linter.unusedSimpArgs false
namespace Go.Fu
open Go.Vc
noncomputable section
structure QOk (q : Queue) (left since : List Int) (c : Int) : Prop where
  len : since.length = left.length
  cl : ∀ i : Int, 0 ≤ i → i < since.length → gt since i ≤ c
  bd : ∀ i : Int, 0 ≤ i → i < left.length → 0 ≤ gt left i ∧ gt left i ≤ 600
  all : ∀ i : Int, 0 ≤ i → i < left.length → 0 < gt left i → (i, gt left i) ∈ q
  el : ∀ t ∈ q, 0 ≤ t.1 ∧ t.1 < left.length ∧ t.2 = gt left t.1 ∧ 0 < t.2
  ord : q.Pairwise fun a b => gt since a.1 < gt since b.1
theorem QOk.zero : QOk [] [] [] 0 := ⟨rfl, fun i a b => by simp at b; omega, fun i a b => by simp at b; omega, fun i a b => by simp at b; omega, by simp, by simp⟩
theorem QOk.more {q : Queue} {left since : List Int} {c : Int} (h : QOk q left since c) : QOk q left since (c + 1) :=
  ⟨h.len, fun i a b => by have := h.cl i a b; omega, h.bd, h.all, h.el, h.ord⟩
theorem QOk.push {q : Queue} {left since : List Int} {c n : Int} (h : QOk q left since c) (h0 : 0 ≤ n) (h1 : n ≤ 600) :
    QOk (if 0 < n then q ++ [((left.length : Int), n)] else q) (left ++ [n]) (since ++ [c + 1]) (c + 1) := by
  have hl := h.len
  refine ⟨by simp [h.len], fun i a b => ?_, fun i a b => ?_, fun i a b p => ?_, fun t ht => ?_, ?_⟩
  · simp at b
    by_cases e : i < since.length
    · rw [gt_append_l a e]; have := h.cl i a e; omega
    · have : i = since.length := by omega
      subst this; rw [gt_append_last]; omega
  · simp at b
    by_cases e : i < left.length
    · rw [gt_append_l a e]; exact h.bd i a e
    · have : i = left.length := by omega
      subst this; rw [gt_append_last]; omega
  · simp at b
    by_cases e : i < left.length
    · rw [gt_append_l a e] at p ⊢
      have := h.all i a e p
      split
      · exact List.mem_append_left _ this
      · exact this
    · have : i = left.length := by omega
      subst this; rw [gt_append_last] at p ⊢
      rw [if_pos p]; simp
  · have key : t ∈ q ∨ (0 < n ∧ t = ((left.length : Int), n)) := by
      split at ht
      · rename_i hn
        simp at ht
        rcases ht with ht | ht
        · exact .inl ht
        · exact .inr ⟨hn, ht⟩
      · exact .inl ht
    rcases key with k | ⟨k0, k⟩
    · obtain ⟨e1, e2, e3, e4⟩ := h.el t k
      refine ⟨e1, by simp; omega, ?_, e4⟩
      rw [gt_append_l e1 e2]; exact e3
    · subst k
      exact ⟨by simp, by simp; omega, by simp only [gt_append_last], k0⟩
  · have old : q.Pairwise fun a b => gt (since ++ [c + 1]) a.1 < gt (since ++ [c + 1]) b.1 := by
      refine h.ord.imp_of_mem ?_
      intro a b ha hb hab
      have ea := h.el a ha
      have eb := h.el b hb
      rw [gt_append_l ea.1 (by omega), gt_append_l eb.1 (by omega)]; exact hab
    split
    · rw [List.pairwise_append]
      refine ⟨old, by simp, fun a ha b hb => ?_⟩
      simp at hb
      subst hb
      have ea := h.el a ha
      simp only
      rw [gt_append_l ea.1 (by omega), ← hl, gt_append_last]
      have := h.cl a.1 ea.1 (by omega)
      omega
    · exact old
theorem QOk.none {q : Queue} {left since : List Int} {c : Int} (h : QOk q left since c) (g : ∀ i : Int, 0 ≤ i → i < left.length → ¬ 0 < gt left i) : q = [] := by
  cases q with
  | nil => rfl
  | cons t r =>
    obtain ⟨e1, e2, e3, e4⟩ := h.el t (by simp)
    exact absurd (by omega) (g t.1 e1 e2)
theorem QOk.head {q : Queue} {left since : List Int} {c t : Int} (h : QOk q left since c) (h0 : 0 ≤ t) (h1 : t < left.length) (h2 : 0 < gt left t)
    (g : ∀ i : Int, 0 ≤ i → i < left.length → 0 < gt left i → gt since t ≤ gt since i) : ∃ r, q = (t, gt left t) :: r := by
  have m := h.all t h0 h1 h2
  cases q with
  | nil => simp at m
  | cons a r =>
    obtain ⟨e1, e2, e3, e4⟩ := h.el a (by simp)
    have ga := g a.1 e1 e2 (by omega)
    simp only [List.mem_cons] at m
    rcases m with m | m
    · exact ⟨r, by rw [m]⟩
    · have := (List.pairwise_cons.1 h.ord).1 _ m
      simp only at this
      omega
theorem QOk.turn {r : Queue} {left since : List Int} {c t n v : Int} (h : QOk ((t, n) :: r) left since c) (h0 : 0 ≤ v) (h1 : v ≤ 600) :
    QOk (if 0 < v then r ++ [(t, v)] else r) (left.set t.toNat v) (since.set t.toNat (c + 1)) (c + 1) := by
  have hl := h.len
  obtain ⟨t0, t1, t2, t3⟩ := h.el (t, n) (by simp)
  simp only at t0 t1 t2 t3
  have ne : ∀ a ∈ r, a.1 ≠ t := fun a ha e => by
    have := (List.pairwise_cons.1 h.ord).1 a ha
    simp only [e] at this
    omega
  refine ⟨by simp [h.len], fun i a b => ?_, fun i a b => ?_, fun i a b p => ?_, fun x hx => ?_, ?_⟩
  · simp at b
    by_cases e : i = t
    · subst e; rw [gt_set_eq a (by omega)]; omega
    · rw [gt_set_ne t0 a (fun x => e x.symm)]; have := h.cl i a b; omega
  · simp at b
    by_cases e : i = t
    · subst e; rw [gt_set_eq a (by omega)]; omega
    · rw [gt_set_ne t0 a (fun x => e x.symm)]; exact h.bd i a b
  · simp at b
    by_cases e : i = t
    · subst e; rw [gt_set_eq a (by omega)] at p ⊢; rw [if_pos p]; simp
    · rw [gt_set_ne t0 a (fun x => e x.symm)] at p ⊢
      have := h.all i a b p
      simp only [List.mem_cons, Prod.mk.injEq] at this
      rcases this with c | c
      · exact absurd c.1 e
      · split
        · exact List.mem_append_left _ c
        · exact c
  · have key : x ∈ r ∨ (0 < v ∧ x = (t, v)) := by
      split at hx
      · rename_i hn
        simp at hx
        rcases hx with hx | hx
        · exact .inl hx
        · exact .inr ⟨hn, hx⟩
      · exact .inl hx
    rcases key with k | ⟨k0, k⟩
    · obtain ⟨e1, e2, e3, e4⟩ := h.el x (by simp [k])
      refine ⟨e1, by simp; omega, ?_, e4⟩
      rw [gt_set_ne t0 e1 (fun y => ne x k y.symm)]; exact e3
    · subst k
      exact ⟨t0, by simp; omega, by rw [gt_set_eq t0 t1], k0⟩
  · have old : r.Pairwise fun a b => gt (since.set t.toNat (c + 1)) a.1 < gt (since.set t.toNat (c + 1)) b.1 := by
      refine (List.pairwise_cons.1 h.ord).2.imp_of_mem ?_
      intro a b ha hb hab
      have ea := h.el a (by simp [ha])
      have eb := h.el b (by simp [hb])
      rw [gt_set_ne t0 ea.1 (fun y => ne a ha y.symm), gt_set_ne t0 eb.1 (fun y => ne b hb y.symm)]; exact hab
    split
    · rw [List.pairwise_append]
      refine ⟨old, by simp, fun a ha b hb => ?_⟩
      simp at hb
      subst hb
      have ea := h.el a (by simp [ha])
      simp only
      rw [gt_set_ne t0 ea.1 (fun y => ne a ha y.symm), gt_set_eq t0 (by omega)]
      have := h.cl a.1 ea.1 (by omega)
      omega
    · exact old
/-! steps -/
theorem schedGo_drop {q : Queue} {nx x : Int} {l : List (Int × Int)} (h0 : 0 ≤ x) (h1 : x < l.length) :
    schedGo q nx (l.drop x.toNat) = (schedStep q nx (gt l x)).1 :: schedGo (schedStep q nx (gt l x)).2.1 (schedStep q nx (gt l x)).2.2 (l.drop (x + 1).toNat) := by
  rw [drop_gt h0 h1]; rfl
theorem step_push_bad {q : Queue} {nx : Int} {j : Int × Int} (h : j.1 = 1) (g : j.2 < 0 ∨ 600 < j.2) : schedStep q nx j = ((2, 0, 0, false), q, nx) := by
  unfold schedStep; rw [if_pos h, if_pos g]
theorem step_push {q : Queue} {nx : Int} {j : Int × Int} (h : j.1 = 1) (g : ¬ (j.2 < 0 ∨ 600 < j.2)) : schedStep q nx j = ((0, nx, 0, bo (j.2 = 0)), (if 0 < j.2 then q ++ [(nx, j.2)] else q), nx + 1) := by
  unfold schedStep; rw [if_pos h, if_neg g, bo_decide]
theorem step_turn_bad {q : Queue} {nx : Int} {j : Int × Int} (h : j.1 = 2) (g : j.2 < 1 ∨ 50 < j.2) : schedStep q nx j = ((2, 0, 0, false), q, nx) := by
  unfold schedStep; rw [if_neg (by omega), if_pos h, if_pos g]
theorem step_turn_none {nx : Int} {j : Int × Int} (h : j.1 = 2) (g : ¬ (j.2 < 1 ∨ 50 < j.2)) : schedStep [] nx j = ((7, 0, 0, false), [], nx) := by
  unfold schedStep; rw [if_neg (by omega), if_pos h, if_neg g]
theorem step_turn {t : Int × Int} {r : Queue} {nx : Int} {j : Int × Int} (h : j.1 = 2) (g : ¬ (j.2 < 1 ∨ 50 < j.2)) :
    schedStep (t :: r) nx j = ((0, t.1, min j.2 t.2, bo (t.2 - min j.2 t.2 = 0)), (if 0 < t.2 - min j.2 t.2 then r ++ [(t.1, t.2 - min j.2 t.2)] else r), nx) := by
  unfold schedStep; rw [if_neg (by omega), if_pos h, if_neg g, bo_decide]
theorem step_kind {q : Queue} {nx : Int} {j : Int × Int} (h : ¬ j.1 = 1) (g : ¬ j.1 = 2) : schedStep q nx j = ((3, 0, 0, false), q, nx) := by
  unfold schedStep; rw [if_neg h, if_neg g]
theorem schedGo_len : ∀ (l : List (Int × Int)) (q : Queue) (nx : Int), (schedGo q nx l).length = l.length
  | [], _, _ => rfl
  | j :: l, q, nx => by simp only [schedGo, List.length_cons, schedGo_len l]
theorem schedPlay_len (l : List (Int × Int)) : (schedPlay l).1.length ≤ 80 := by
  unfold schedPlay
  split
  · simp
  · simp only [schedGo_len]; omega
end
end Go.Fu
