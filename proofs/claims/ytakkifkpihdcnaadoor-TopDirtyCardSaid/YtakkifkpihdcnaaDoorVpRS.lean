/-
  A set of spans behind an edit.
-/
import Derived.Test.YtakkifkpihdcnaaDoorVpRJ
set_option linter.unusedVariables false
set_option linter.unusedSimpArgs false
namespace Go.Fu
open Go.Vc
noncomputable section
def shiftP (l : List Span) (e : Edit) (j : Int) : Prop := (∃ i, inSp l i ∧ ¬ (e.1 ≤ i ∧ i < e.1 + e.2.1) ∧ moved e i true = j) ∨ (e.1 ≤ j ∧ j < e.1 + e.2.2.length)
def shifted (l : List Span) (e : Edit) : List Span := canonOf (shiftP l e)
abbrev shiftPre (l : List Span) (e : Edit) : Prop := ∃ size, spansOk size l ∧ editFault size e = 0
def spans_Shifted_ct : Ct := ⟨tys2 (.sl tSpan) tEdit, [.own tSpan], fun x => shiftPre x.1 x.2, fun x => shifted x.1 x.2⟩
def spansShift (size : Int) (l : List Span) (e : Edit) : List Span × Int :=
  open Classical in if ¬ spansOk size l then ([], 4) else if editFault size e ≠ 0 then ([], editFault size e) else spansFull (shifted l e)
abbrev shFits (size : Int) (l : List Span) (e : Edit) : Prop := inI64 size ∧ fitL l ∧ editFits e
def spans_Shift_ct : Ct := ⟨tys3 tI (.sl tSpan) tEdit, [.own tSpan, .val tI], fun x => shFits x.1 x.2.1 x.2.2, fun x => spansShift x.1 x.2.1 x.2.2⟩
def ref_SpansShift_ct : Ct := spans_Shift_ct
end
theorem spansShift_a {size : Int} {l : List Span} {e : Edit} (h : ¬ spansOk size l) : spansShift size l e = ([], 4) := by unfold spansShift; rw [if_pos h]
theorem spansShift_b {size : Int} {l : List Span} {e : Edit} (h : spansOk size l) (g : editFault size e ≠ 0) : spansShift size l e = ([], editFault size e) := by unfold spansShift; rw [if_neg (by simpa using h), if_pos g]
theorem spansShift_c {size : Int} {l : List Span} {e : Edit} (h : spansOk size l) (g : editFault size e = 0) : spansShift size l e = spansFull (shifted l e) := by unfold spansShift; rw [if_neg (by simpa using h), if_neg (by simpa using g)]
theorem spansShift_len (size : Int) (l : List Span) (e : Edit) : fitL (spansShift size l e).1 := by
  by_cases h : spansOk size l
  · by_cases g : editFault size e = 0
    · rw [spansShift_c h g]; have := spansFull_len (shifted l e); unfold fitL; omega
    · rw [spansShift_b h g]; simp
  · rw [spansShift_a h]; simp
/-! ### One list for each set of places -/
theorem canon_ex (P : Int → Prop) : ∀ n : Nat, n ≤ 1000000 → ∃ l, isCanon (fun j => 0 ≤ j ∧ j < (n : Int) ∧ P j) l
  | 0, _ => ⟨[], trivial, fun i => by simp [inSp_nil]; omega⟩
  | n + 1, hn => by
    obtain ⟨l, h⟩ := canon_ex P n (by omega)
    rw [show ((n + 1 : Nat) : Int) = (n : Int) + 1 by omega]
    by_cases p : P (n : Int)
    · by_cases q : 0 < (n : Int) ∧ P ((n : Int) - 1)
      · exact ⟨_, (canon_long q.1 (by omega) h p q.2).2⟩
      · exact ⟨_, canon_new (by omega) (by omega) h p q⟩
    · exact ⟨l, canon_skip h p⟩
theorem canon_of {P : Int → Prop} (h : ∀ j, P j → 0 ≤ j ∧ j < 1000000) : isCanon P (canonOf P) := by
  obtain ⟨l, g1, g2⟩ := canon_ex P 1000000 (Nat.le_refl _)
  have : isCanon P l := ⟨g1, fun i => by rw [g2 i]; exact ⟨fun q => q.2.2, fun q => ⟨(h i q).1, (h i q).2, q⟩⟩⟩
  rw [canon_eq this]; exact this
theorem sep_small {m n : Int} : ∀ {l : List Span} {a : Int}, spansOkFrom n a l → (∀ j, inSp l j → j < m) → spansOkFrom m a l
  | [], _, _, _ => trivial
  | s :: l, a, h, g => ⟨h.1, h.2.1, by have := g (s.2 - 1) (inSp_cons.2 (.inl (by have := h.2.1; omega))); omega, sep_small h.2.2.2 fun j hj => g j (inSp_cons.2 (.inr hj))⟩
theorem sep_len {n : Int} : ∀ {l : List Span} {a : Int}, a ≤ n → spansOkFrom n a l → (l.length : Int) ≤ n - a
  | [], _, h, _ => by simp; omega
  | s :: l, a, h, g => by have := sep_len g.2.2.1 g.2.2.2; have := g.1; have := g.2.1; simp only [List.length_cons]; omega
theorem canon_small {P : Int → Prop} {l : List Span} {m : Int} (h : isCanon P l) (hm : ∀ j, P j → j < m) (h0 : -1 ≤ m) : spansOkFrom m (-1) l ∧ (l.length : Int) ≤ m + 1 := by
  have := sep_small h.1 fun j hj => hm j ((h.2 j).1 hj)
  exact ⟨this, by have := sep_len h0 this; omega⟩
/-! ### Step by step -/
def shStep (e : Edit) (s : Span) : List Span :=
  if s.1 < e.1 ∧ e.1 < s.2 then [(s.1, e.1), (e.1 + (e.2.2.length - e.2.1), s.2 + (e.2.2.length - e.2.1))]
  else if e.1 ≤ s.1 then [(s.1 + (e.2.2.length - e.2.1), s.2 + (e.2.2.length - e.2.1))] else [s]
def shRaw (e : Edit) (l : List Span) : List Span := l.flatMap (shStep e)
theorem shRaw_succ {e : Edit} {l : List Span} {x : Int} (h0 : 0 ≤ x) (h1 : x < l.length) : shRaw e (l.take (x + 1).toNat) = shRaw e (l.take x.toNat) ++ shStep e (gt l x) := by
  unfold shRaw; rw [take_gt h0 h1]; simp
/-- A span that nothing is cut of. -/
def uncut (e : Edit) (s : Span) : Prop := 0 ≤ s.1 ∧ s.1 < s.2 ∧ s.2 ≤ 600 ∧ 0 ≤ e.1 ∧ 0 ≤ e.2.1 ∧ e.2.2.length ≤ 600 + e.2.1 ∧ e.1 + e.2.1 ≤ 600 ∧ (e.2.1 = 0 ∨ s.2 ≤ e.1 ∨ e.1 + e.2.1 ≤ s.1)
theorem moved_lt {e : Edit} {i : Int} (h : i < e.1) : moved e i true = i := by unfold moved; rw [if_pos h]
theorem moved_ge {e : Edit} {i : Int} (h0 : 0 ≤ e.2.1) (h : e.1 + e.2.1 ≤ i) : moved e i true = i + e.2.2.length - e.2.1 := by
  unfold moved
  rw [if_neg (by omega)]
  split
  · rfl
  · rw [if_pos rfl]; omega
theorem inSp_step {e : Edit} {s : Span} (h : uncut e s) (j : Int) : inSp (shStep e s) j ↔ ∃ i, s.1 ≤ i ∧ i < s.2 ∧ moved e i true = j := by
  obtain ⟨a1, a2, a3, a4, a5, a6, a7, a8⟩ := h
  unfold shStep
  by_cases c1 : s.1 < e.1 ∧ e.1 < s.2
  · rw [if_pos c1, inSp_cons, inSp_one]
    have z : e.2.1 = 0 := by omega
    constructor
    · rintro (q | q)
      · exact ⟨j, q.1, by omega, moved_lt q.2⟩
      · exact ⟨j - (e.2.2.length - e.2.1), by omega, by omega, by rw [moved_ge a5 (by omega)]; omega⟩
    · rintro ⟨i, b1, b2, b3⟩
      by_cases c : i < e.1
      · rw [moved_lt c] at b3; left; omega
      · rw [moved_ge a5 (by omega)] at b3; right; omega
  · rw [if_neg c1]
    by_cases c2 : e.1 ≤ s.1
    · rw [if_pos c2, inSp_one]
      constructor
      · rintro q
        exact ⟨j - (e.2.2.length - e.2.1), by omega, by omega, by rw [moved_ge a5 (by omega)]; omega⟩
      · rintro ⟨i, b1, b2, b3⟩
        rw [moved_ge a5 (by omega)] at b3; omega
    · rw [if_neg c2, inSp_one]
      constructor
      · rintro q
        exact ⟨j, q.1, q.2, moved_lt (by omega)⟩
      · rintro ⟨i, b1, b2, b3⟩
        rw [moved_lt (by omega)] at b3; omega
theorem inSp_shRaw {e : Edit} : ∀ {l : List Span}, (∀ s ∈ l, uncut e s) → ∀ j : Int, inSp (shRaw e l) j ↔ ∃ i, inSp l i ∧ moved e i true = j
  | [], _, j => by simp [shRaw, inSp_nil]
  | s :: l, h, j => by
    have e1 : shRaw e (s :: l) = shStep e s ++ shRaw e l := by simp [shRaw]
    rw [e1, inSp_app, inSp_step (h s (by simp)), inSp_shRaw (fun t ht => h t (by simp [ht]))]
    constructor
    · rintro (⟨i, a, b, c⟩ | ⟨i, a, b⟩)
      · exact ⟨i, inSp_cons.2 (.inl ⟨a, b⟩), c⟩
      · exact ⟨i, inSp_cons.2 (.inr a), b⟩
    · rintro ⟨i, a, b⟩
      rcases inSp_cons.1 a with a | a
      · exact .inl ⟨i, a.1, a.2, b⟩
      · exact .inr ⟨i, a, b⟩
theorem step_pre {e : Edit} {s : Span} (h : uncut e s) : ∀ t ∈ shStep e s, 0 ≤ t.1 ∧ t.1 ≤ t.2 ∧ t.2 ≤ 1800 := by
  obtain ⟨a1, a2, a3, a4, a5, a6, a7, a8⟩ := h
  intro t ht
  unfold shStep at ht
  split at ht
  · simp at ht; rcases ht with rfl | rfl <;> simp only <;> omega
  · split at ht
    · simp at ht; subst ht; simp only; omega
    · simp at ht; subst ht; omega
theorem step_len (e : Edit) (s : Span) : (shStep e s).length ≤ 2 := by unfold shStep; split <;> (try split) <;> simp
theorem shRaw_len (e : Edit) : ∀ l : List Span, (shRaw e l).length ≤ 2 * l.length
  | [] => by simp [shRaw]
  | s :: l => by
    have e1 : shRaw e (s :: l) = shStep e s ++ shRaw e l := by simp [shRaw]
    have := step_len e s; have := shRaw_len e l
    rw [e1, List.length_append, List.length_cons]; omega
theorem sep_pair {n : Int} : ∀ {l : List Span} {a : Int}, spansOkFrom n a l → l.Pairwise fun s t => s.2 < t.1
  | [], _, _ => .nil
  | s :: l, a, h => .cons (fun t ht => (sep_mem h.2.2.2 t ht).1) (sep_pair h.2.2.2)
theorem shRaw_asc {e : Edit} {l : List Span} {n a : Int} (hl : spansOkFrom n a l) (hu : ∀ s ∈ l, uncut e s) (hn : l.length ≤ 50000) : ascOk (shRaw e l) := by
  refine ⟨by have := shRaw_len e l; omega, fun t ht => ?_, ?_⟩
  · simp only [shRaw, List.mem_flatMap] at ht
    obtain ⟨s, h1, h2⟩ := ht
    have := step_pre (hu s h1) t h2
    exact ⟨this.1, this.2.1, by omega⟩
  · unfold shRaw
    rw [List.pairwise_flatMap]
    refine ⟨fun s hs => ?_, (sep_pair hl).imp_of_mem fun {s t} hs ht hst x hx y hy => ?_⟩
    · obtain ⟨a1, a2, a3, a4, a5, a6, a7, a8⟩ := hu s hs
      unfold shStep
      split
      · simp; omega
      · split <;> simp
    · obtain ⟨a1, a2, a3, a4, a5, a6, a7, a8⟩ := hu s hs
      obtain ⟨b1, b2, b3, b4, b5, b6, b7, b8⟩ := hu t ht
      unfold shStep at hx hy
      split at hx <;> split at hy
      · omega
      · split at hy <;> simp at hx hy <;> subst hy <;> rcases hx with rfl | rfl <;> simp only <;> omega
      · split at hx <;> simp at hx hy <;> subst hx <;> rcases hy with rfl | rfl <;> simp only <;> omega
      · split at hx <;> split at hy <;> simp at hx hy <;> subst hx <;> subst hy <;> (try simp only) <;> omega
theorem joined_of {l : List Span} (h : ascOk l) : isCanon (inSp l) (joined l) :=
  canon_of fun j ⟨s, hs, a, b⟩ => by
    have := h.2.1 s hs
    exact ⟨by omega, by omega⟩
/-- What is left of a set behind a cut, and what With is handed. -/
theorem without_of {l : List Span} {s : Span} (h : sepFrom (-1) l) : isCanon (fun i => inSp l i ∧ ¬ (s.1 ≤ i ∧ i < s.2)) (without l s) :=
  canon_of fun j ⟨a, _⟩ => by have := sep_in h a; omega
theorem left_uncut {size : Int} {l : List Span} {e : Edit} (ok : spansOk size l) (f : editFault size e = 0) : (∀ s ∈ without l (e.1, e.1 + e.2.1), uncut e s) ∧ spansOkFrom 600 (-1) (without l (e.1, e.1 + e.2.1)) ∧ ((without l (e.1, e.1 + e.2.1)).length : Int) ≤ 601 := by
  have m := editMay_iff.1 (show editMay size e from f)
  have hc := without_of (s := (e.1, e.1 + e.2.1)) (spansOk_pre ok).2
  have hs := canon_small hc (m := 600) (fun j hj => by have := sep_in ok.2.2.2 hj.1; have := ok.2.1; omega) (by omega)
  refine ⟨fun s hs' => ?_, hs.1, by omega⟩
  have b := sep_mem hs.1 s hs'
  have z : ∀ i, s.1 ≤ i → i < s.2 → ¬ (e.1 ≤ i ∧ i < e.1 + e.2.1) := fun i a b => ((hc.2 i).1 ⟨s, hs', a, b⟩).2
  have z1 := z s.1 (Int.le_refl _) b.2.1
  have z2 := z e.1
  refine ⟨by omega, b.2.1, b.2.2, m.2.2.1, m.2.2.2.2.1, by omega, by omega, ?_⟩
  by_cases c : e.2.1 = 0
  · exact .inl c
  · right
    by_cases d : s.2 ≤ e.1
    · exact .inl d
    · right
      by_cases d2 : e.1 + e.2.1 ≤ s.1
      · exact d2
      · exfalso
        by_cases d3 : e.1 ≤ s.1
        · exact z1 ⟨d3, by omega⟩
        · exact z2 (by omega) (by omega) ⟨by omega, by omega⟩
theorem shift_with {size : Int} {l : List Span} {e : Edit} (ok : spansOk size l) (f : editFault size e = 0) :
    ascOk (shRaw e (without l (e.1, e.1 + e.2.1))) ∧ spansPre (joined (shRaw e (without l (e.1, e.1 + e.2.1)))) ∧ spanPre (e.1, e.1 + e.2.2.length) ∧ withSp (joined (shRaw e (without l (e.1, e.1 + e.2.1)))) (e.1, e.1 + e.2.2.length) = shifted l e := by
  have m := editMay_iff.1 (show editMay size e from f)
  obtain ⟨u1, u2, u3⟩ := left_uncut ok f
  have ha := shRaw_asc u2 u1 (by omega)
  have hj := joined_of ha
  have hc := without_of (s := (e.1, e.1 + e.2.1)) (spansOk_pre ok).2
  have small : ∀ j, inSp (shRaw e (without l (e.1, e.1 + e.2.1))) j → j < 1800 := fun j ⟨t, ht, a, b⟩ => by
    simp only [shRaw, List.mem_flatMap] at ht
    obtain ⟨s, h1, h2⟩ := ht
    have := step_pre (u1 s h1) t h2
    omega
  have hs := canon_small hj (m := 1800) small (by omega)
  refine ⟨ha, ⟨by omega, hj.1⟩, ⟨m.2.2.1, by show e.1 ≤ e.1 + e.2.2.length; omega, by show e.1 + (e.2.2.length : Int) ≤ 1000000; omega⟩, canon_congr fun j => ?_⟩
  rw [hj.2 j, inSp_shRaw u1]
  unfold shiftP
  constructor
  · rintro (⟨i, a, b⟩ | a)
    · have := (hc.2 i).1 a
      exact .inl ⟨i, this.1, this.2, b⟩
    · exact .inr a
  · rintro (⟨i, a, b, c⟩ | a)
    · exact .inl ⟨i, (hc.2 i).2 ⟨a, b⟩, c⟩
    · exact .inr a
end Go.Fu
