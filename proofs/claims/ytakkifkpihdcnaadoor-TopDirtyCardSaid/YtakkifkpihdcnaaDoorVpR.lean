/-
  Spans as sets of places: one list for each set.
-/
import Derived.Test.YtakkifkpihdcnaaDoorVpJ
import Derived.Test.YtakkifkpihdcnaaDoorVpP
set_option linter.unusedVariables false
set_option linter.unusedSimpArgs false
namespace Go.Fu
open Go.Vc
noncomputable section
abbrev Span := Int × Int
def inSp (l : List Span) (i : Int) : Prop := ∃ s ∈ l, s.1 ≤ i ∧ i < s.2
/-- Spans that ascend and do not touch, behind a place. -/
def sepFrom (last : Int) (l : List Span) : Prop := spansOkFrom 1000000 last l
def isCanon (P : Int → Prop) (l : List Span) : Prop := sepFrom (-1) l ∧ ∀ i, inSp l i ↔ P i
def canonOf (P : Int → Prop) : List Span := Classical.epsilon (isCanon P)
theorem inSp_nil (i : Int) : ¬ inSp [] i := by rintro ⟨s, h, _⟩; simp at h
theorem inSp_cons {s : Span} {l : List Span} {i : Int} : inSp (s :: l) i ↔ (s.1 ≤ i ∧ i < s.2) ∨ inSp l i := by
  unfold inSp
  constructor
  · rintro ⟨t, h, g⟩
    simp only [List.mem_cons] at h
    rcases h with h | h
    · subst h; exact .inl g
    · exact .inr ⟨t, h, g⟩
  · rintro (h | ⟨t, h, g⟩)
    · exact ⟨s, by simp, h⟩
    · exact ⟨t, by simp [h], g⟩
theorem inSp_app {l m : List Span} {i : Int} : inSp (l ++ m) i ↔ inSp l i ∨ inSp m i := by
  induction l with
  | nil => simp [inSp_nil]
  | cons s l ih => rw [List.cons_append, inSp_cons, inSp_cons, ih, or_assoc]
theorem inSp_one {s : Span} {i : Int} : inSp [s] i ↔ s.1 ≤ i ∧ i < s.2 := by rw [inSp_cons]; simp [inSp_nil]
theorem sep_mem {n : Int} : ∀ {l : List Span} {last : Int}, spansOkFrom n last l → ∀ s ∈ l, last < s.1 ∧ s.1 < s.2 ∧ s.2 ≤ n
  | [], _, _, s, hs => by simp at hs
  | a :: l, last, h, s, hs => by
    obtain ⟨h1, h2, h3, h4⟩ := h
    simp only [List.mem_cons] at hs
    rcases hs with e | e
    · subst e; exact ⟨h1, h2, h3⟩
    · have := sep_mem h4 s e; omega
theorem sep_weak {n m : Int} (hnm : n ≤ m) : ∀ {l : List Span} {a b : Int}, b ≤ a → spansOkFrom n a l → spansOkFrom m b l
  | [], _, _, _, _ => trivial
  | s :: l, a, b, hab, ⟨h1, h2, h3, h4⟩ => ⟨by omega, h2, by omega, sep_weak hnm (Int.le_refl _) h4⟩
theorem sep_in {n last i : Int} {l : List Span} (h : spansOkFrom n last l) (hi : inSp l i) : last < i ∧ i < n := by
  obtain ⟨s, hs, h1, h2⟩ := hi
  have := sep_mem h s hs
  omega
theorem sep_uniq {n : Int} : ∀ {l m : List Span} {a : Int}, spansOkFrom n a l → spansOkFrom n a m → (∀ i, inSp l i ↔ inSp m i) → l = m
  | [], [], _, _, _, _ => rfl
  | s :: l, [], a, h, _, e => absurd ((e s.1).1 (inSp_cons.2 (.inl ⟨by omega, h.2.1⟩))) (inSp_nil _)
  | [], t :: m, a, _, h, e => absurd ((e t.1).2 (inSp_cons.2 (.inl ⟨by omega, h.2.1⟩))) (inSp_nil _)
  | s :: l, t :: m, a, h, g, e => by
    have lo : ∀ {s t : Span} {l m : List Span}, spansOkFrom n a (s :: l) → spansOkFrom n a (t :: m) → (∀ i, inSp (s :: l) i ↔ inSp (t :: m) i) → t.1 ≤ s.1 := fun {s t l m} h g e => by
      rcases inSp_cons.1 ((e s.1).1 (inSp_cons.2 (.inl ⟨by omega, h.2.1⟩))) with c | c
      · exact c.1
      · have := sep_in g.2.2.2 c; have := g.2.1; omega
    have e1 : s.1 = t.1 := by have := lo h g e; have := lo g h fun i => (e i).symm; omega
    have hi : ∀ {s t : Span} {l m : List Span}, s.1 = t.1 → spansOkFrom n a (s :: l) → spansOkFrom n a (t :: m) → (∀ i, inSp (s :: l) i ↔ inSp (t :: m) i) → t.2 ≤ s.2 := fun {s t l m} e1 h g e => by
      rcases Int.lt_or_le s.2 t.2 with c | c
      · rcases inSp_cons.1 ((e s.2).2 (inSp_cons.2 (.inl ⟨by have := h.2.1; omega, c⟩))) with d | d
        · omega
        · have := sep_in h.2.2.2 d; omega
      · exact c
    have e2 : s.2 = t.2 := by have := hi e1 h g e; have := hi e1.symm g h fun i => (e i).symm; omega
    have es : s = t := Prod.ext e1 e2
    subst es
    congr 1
    refine sep_uniq h.2.2.2 g.2.2.2 fun i => ?_
    constructor
    · intro c
      have := sep_in h.2.2.2 c
      rcases inSp_cons.1 ((e i).1 (inSp_cons.2 (.inr c))) with d | d
      · omega
      · exact d
    · intro c
      have := sep_in g.2.2.2 c
      rcases inSp_cons.1 ((e i).2 (inSp_cons.2 (.inr c))) with d | d
      · omega
      · exact d
theorem canon_eq {P : Int → Prop} {l : List Span} (h : isCanon P l) : canonOf P = l := by
  have g := Classical.epsilon_spec (p := isCanon P) ⟨l, h⟩
  exact sep_uniq g.1 h.1 fun i => (g.2 i).trans (h.2 i).symm
theorem canon_congr {P Q : Int → Prop} (h : ∀ i, P i ↔ Q i) : canonOf P = canonOf Q := by
  have : P = Q := funext fun i => propext (h i)
  rw [this]
/-- Where the last one ends. -/
def lastEnd (last : Int) (l : List Span) : Int := l.foldl (fun _ s => s.2) last
theorem lastEnd_snoc (last : Int) (l : List Span) (s : Span) : lastEnd last (l ++ [s]) = s.2 := by simp [lastEnd]
theorem sep_snoc {n : Int} : ∀ {l : List Span} {last : Int} {s : Span}, spansOkFrom n last (l ++ [s]) ↔ spansOkFrom n last l ∧ lastEnd last l < s.1 ∧ s.1 < s.2 ∧ s.2 ≤ n
  | [], last, s => by simp [spansOkFrom, lastEnd]
  | a :: l, last, s => by
    simp only [List.cons_append, spansOkFrom, sep_snoc (l := l)]
    have : lastEnd last (a :: l) = lastEnd a.2 l := rfl
    rw [this]
    constructor
    · rintro ⟨h1, h2, h3, h4, h5⟩; exact ⟨⟨h1, h2, h3, h4⟩, h5⟩
    · rintro ⟨⟨h1, h2, h3, h4⟩, h5⟩; exact ⟨h1, h2, h3, h4, h5⟩
theorem sep_lastEnd {n : Int} : ∀ {l : List Span} {last i : Int}, spansOkFrom n last l → inSp l i → i < lastEnd last l
  | [], last, i, _, h => absurd h (inSp_nil _)
  | a :: l, last, i, h, g => by
    have e : lastEnd last (a :: l) = lastEnd a.2 l := rfl
    rw [e]
    have mono : ∀ {l : List Span} {b : Int}, spansOkFrom n b l → b ≤ lastEnd b l := by
      intro l
      induction l with
      | nil => intro b _; simp [lastEnd]
      | cons s l ih =>
        intro b hb
        have e : lastEnd b (s :: l) = lastEnd s.2 l := rfl
        have := ih hb.2.2.2
        have h1 := hb.1
        have h2 := hb.2.1
        rw [e]; omega
    rcases inSp_cons.1 g with c | c
    · have := mono h.2.2.2; omega
    · exact sep_lastEnd h.2.2.2 c
theorem lastEnd_gt {l : List Span} {last : Int} (h : l ≠ []) : lastEnd last l = (gt l ((l.length : Int) - 1)).2 := by
  rcases List.eq_nil_or_concat l with e | ⟨m, s, e⟩
  · exact absurd e h
  · subst e
    rw [List.concat_eq_append, lastEnd_snoc, show (((m ++ [s]).length : Int) - 1) = (m.length : Int) by simp, gt_append_last]
theorem concat_of {l : List Span} (h : l ≠ []) : ∃ m s, l = m ++ [s] ∧ gt l ((l.length : Int) - 1) = s ∧ ∀ t : Span, l.set ((l.length : Int) - 1).toNat t = m ++ [t] := by
  rcases List.eq_nil_or_concat l with e | ⟨m, s, e⟩
  · exact absurd e h
  · subst e
    refine ⟨m, s, by simp, ?_, fun t => ?_⟩
    · rw [List.concat_eq_append, show (((m ++ [s]).length : Int) - 1) = (m.length : Int) by simp, gt_append_last]
    · rw [List.concat_eq_append, show ((((m ++ [s]).length : Nat) : Int) - 1).toNat = m.length by simp]
      simp
/-- A place more. -/
theorem canon_skip {P : Int → Prop} {i : Int} {l : List Span} (h : isCanon (fun j => 0 ≤ j ∧ j < i ∧ P j) l) (hn : ¬ P i) : isCanon (fun j => 0 ≤ j ∧ j < i + 1 ∧ P j) l := by
  refine ⟨h.1, fun j => (h.2 j).trans ⟨fun c => ⟨c.1, by omega, c.2.2⟩, fun c => ⟨c.1, ?_, c.2.2⟩⟩⟩
  by_cases e : j = i
  · subst e; exact absurd c.2.2 hn
  · omega
theorem canon_new {P : Int → Prop} {i : Int} {l : List Span} (hi : 0 ≤ i) (hb : i < 1000000) (h : isCanon (fun j => 0 ≤ j ∧ j < i ∧ P j) l) (hp : P i) (hn : ¬ (0 < i ∧ P (i - 1))) : isCanon (fun j => 0 ≤ j ∧ j < i + 1 ∧ P j) (l ++ [(i, i + 1)]) := by
  have le : lastEnd (-1) l < i := by
    by_cases e : l = []
    · subst e; simp [lastEnd]; omega
    · obtain ⟨m, s, e1, e2, _⟩ := concat_of e
      subst e1
      have h1 := sep_snoc.1 h.1
      rw [lastEnd_snoc]
      have a := (h.2 (s.2 - 1)).1 (inSp_app.2 (.inr (inSp_one.2 ⟨by omega, by omega⟩)))
      rcases Int.lt_or_le s.2 i with c | c
      · exact c
      · have : s.2 - 1 = i - 1 := by omega
        rw [this] at a
        exact absurd ⟨by omega, a.2.2⟩ hn
  refine ⟨sep_snoc.2 ⟨h.1, le, by simp only; omega, by simp only; omega⟩, fun j => ?_⟩
  rw [inSp_app, inSp_one, h.2 j]
  simp only
  constructor
  · rintro (c | c)
    · exact ⟨c.1, by omega, c.2.2⟩
    · have : j = i := by omega
      subst this; exact ⟨hi, by omega, hp⟩
  · rintro ⟨c1, c2, c3⟩
    by_cases e : j = i
    · exact .inr (by omega)
    · exact .inl ⟨c1, by omega, c3⟩
theorem canon_long {P : Int → Prop} {i : Int} {l : List Span} (hi : 0 < i) (hb : i < 1000000) (h : isCanon (fun j => 0 ≤ j ∧ j < i ∧ P j) l) (hp : P i) (hq : P (i - 1)) :
    l ≠ [] ∧ isCanon (fun j => 0 ≤ j ∧ j < i + 1 ∧ P j) (l.set ((l.length : Int) - 1).toNat ((gt l ((l.length : Int) - 1)).1, i + 1)) := by
  have a := (h.2 (i - 1)).2 ⟨by omega, by omega, hq⟩
  have hne : l ≠ [] := by rintro rfl; exact inSp_nil _ a
  refine ⟨hne, ?_⟩
  obtain ⟨m, s, e1, e2, e3⟩ := concat_of hne
  rw [e2, e3]
  subst e1
  have h1 := sep_snoc.1 h.1
  have h2 := sep_lastEnd h.1 a
  rw [lastEnd_snoc] at h2
  have h3 := (h.2 (s.2 - 1)).1 (inSp_app.2 (.inr (inSp_one.2 ⟨by omega, by omega⟩)))
  have es : s.2 = i := by omega
  refine ⟨sep_snoc.2 ⟨h1.1, h1.2.1, by simp only; omega, by simp only; omega⟩, fun j => ?_⟩
  have hj := h.2 j
  rw [inSp_app, inSp_one] at hj ⊢
  simp only
  constructor
  · rintro (c | c)
    · have := hj.1 (.inl c); exact ⟨this.1, by omega, this.2.2⟩
    · by_cases e : j = i
      · subst e; exact ⟨by omega, by omega, hp⟩
      · have := hj.1 (.inr ⟨c.1, by omega⟩); exact ⟨this.1, by omega, this.2.2⟩
  · rintro ⟨c1, c2, c3⟩
    by_cases e : j = i
    · subst e; exact .inr ⟨by omega, by omega⟩
    · rcases hj.2 ⟨c1, by omega, c3⟩ with d | d
      · exact .inl d
      · exact .inr ⟨d.1, by omega⟩
/-! without a span -/
def withoutRaw (l : List Span) (s : Span) : List Span := l.flatMap fun x => [(x.1, min x.2 (max x.1 s.1)), (max x.1 (min x.2 s.2), x.2)]
def notBare (l : List Span) : List Span := l.filter fun x => decide (x.1 < x.2)
theorem inSp_notBare {l : List Span} {i : Int} : inSp (notBare l) i ↔ inSp l i := by
  unfold inSp notBare
  constructor
  · rintro ⟨s, h, g⟩; exact ⟨s, (List.mem_filter.1 h).1, g⟩
  · rintro ⟨s, h, g⟩; exact ⟨s, List.mem_filter.2 ⟨h, by simp only [decide_eq_true_eq]; omega⟩, g⟩
theorem inSp_raw {s : Span} (hs : s.1 < s.2) : ∀ {l : List Span} {i : Int}, inSp (withoutRaw l s) i ↔ inSp l i ∧ ¬ (s.1 ≤ i ∧ i < s.2)
  | [], i => by simp [withoutRaw, inSp_nil]
  | x :: l, i => by
    have ih := inSp_raw hs (l := l) (i := i)
    have e : withoutRaw (x :: l) s = [(x.1, min x.2 (max x.1 s.1)), (max x.1 (min x.2 s.2), x.2)] ++ withoutRaw l s := rfl
    rw [e, inSp_app, ih, inSp_cons, inSp_one, inSp_cons]
    simp only
    constructor
    · rintro ((c | c) | c)
      · exact ⟨.inl (by omega), by omega⟩
      · exact ⟨.inl (by omega), by omega⟩
      · exact ⟨.inr c.1, c.2⟩
    · rintro ⟨c | c, d⟩
      · exact .inl (by omega)
      · exact .inr ⟨c, d⟩
theorem sep_raw {s : Span} (hs : s.1 < s.2) : ∀ {l : List Span} {last : Int}, sepFrom last l → sepFrom last (notBare (withoutRaw l s))
  | [], _, _ => trivial
  | x :: l, last, ⟨h1, h2, h3, h4⟩ => by
    have ih := sep_raw hs h4
    have e : notBare (withoutRaw (x :: l) s) = (if x.1 < min x.2 (max x.1 s.1) then [(x.1, min x.2 (max x.1 s.1))] else []) ++ ((if max x.1 (min x.2 s.2) < x.2 then [(max x.1 (min x.2 s.2), x.2)] else []) ++ notBare (withoutRaw l s)) := by
      have : withoutRaw (x :: l) s = (x.1, min x.2 (max x.1 s.1)) :: (max x.1 (min x.2 s.2), x.2) :: withoutRaw l s := rfl
      rw [this]
      unfold notBare
      rw [List.filter_cons, List.filter_cons]
      simp only [decide_eq_true_eq]
      split <;> split <;> rfl
    rw [e]
    split
    · split
      · exact ⟨h1, by simp only; omega, by simp only; omega, by simp only; omega, by simp only; omega, by simp only; omega, ih⟩
      · exact ⟨h1, by simp only; omega, by simp only; omega, sep_weak (Int.le_refl _) (by simp only; omega) ih⟩
    · split
      · exact ⟨by simp only; omega, by simp only; omega, by simp only; omega, ih⟩
      · exact sep_weak (Int.le_refl _) (by omega) ih
theorem canon_raw {l : List Span} {s : Span} (hs : s.1 < s.2) (h : sepFrom (-1) l) : notBare (withoutRaw l s) = canonOf fun i => inSp l i ∧ ¬ (s.1 ≤ i ∧ i < s.2) :=
  (canon_eq ⟨sep_raw hs h, fun i => by rw [inSp_notBare, inSp_raw hs]⟩).symm
theorem canon_self {l : List Span} {s : Span} (hs : s.1 = s.2) (h : sepFrom (-1) l) : l = canonOf fun i => inSp l i ∧ ¬ (s.1 ≤ i ∧ i < s.2) :=
  (canon_eq ⟨h, fun i => ⟨fun c => ⟨c, by omega⟩, fun c => c.1⟩⟩).symm
theorem raw_succ {l : List Span} {s : Span} {x : Int} (h0 : 0 ≤ x) (h1 : x < l.length) : withoutRaw (l.take (x + 1).toNat) s = withoutRaw (l.take x.toNat) s ++ [((gt l x).1, min (gt l x).2 (max (gt l x).1 s.1)), (max (gt l x).1 (min (gt l x).2 s.2), (gt l x).2)] := by
  rw [take_gt h0 h1]; simp [withoutRaw]
theorem raw_len (l : List Span) (s : Span) : (withoutRaw l s).length = 2 * l.length := by
  induction l with
  | nil => rfl
  | cons x l ih =>
    have e : withoutRaw (x :: l) s = (x.1, min x.2 (max x.1 s.1)) :: (max x.1 (min x.2 s.2), x.2) :: withoutRaw l s := rfl
    rw [e, List.length_cons, List.length_cons, ih, List.length_cons]; omega
theorem notBare_snoc (l : List Span) (x : Span) : notBare (l ++ [x]) = notBare l ++ if x.1 < x.2 then [x] else [] := by
  unfold notBare
  rw [List.filter_append, List.filter_cons]
  simp only [decide_eq_true_eq, List.filter_nil]
theorem notBare_all {l : List Span} (h : ∀ j : Int, 0 ≤ j → j < l.length → (gt l j).1 < (gt l j).2) : notBare l = l := by
  unfold notBare
  rw [List.filter_eq_self]
  intro x hx
  obtain ⟨j, a, b, rfl⟩ := mem_gt hx
  simpa using h j a b
theorem take_set_succ {α : Type} {s : List α} {i : Int} {v : α} (h0 : 0 ≤ i) (h1 : i < s.length) : (s.set i.toNat v).take (i + 1).toNat = s.take i.toNat ++ [v] := by
  have h : i.toNat < s.length := by omega
  rw [show (i + 1).toNat = i.toNat + 1 by omega, List.take_add_one, List.take_set_of_le (Nat.le_refl _), List.getElem?_set_self h]
  rfl
theorem drop_set_lt {α : Type} {s : List α} {i j : Int} {v : α} (h0 : 0 ≤ i) (h1 : i < j) : (s.set i.toNat v).drop j.toNat = s.drop j.toNat := by
  rw [List.drop_set_of_lt (by omega)]
/-- What stands of a list that is being thinned out: i of them are kept, of the first j. -/
def thin (out s : List Span) (i j : Int) : Prop := 0 ≤ i ∧ i ≤ j ∧ j ≤ out.length ∧ s.length = out.length ∧ s.take i.toNat = notBare (out.take j.toNat) ∧ s.drop j.toNat = out.drop j.toNat
theorem thin_gt {out s : List Span} {i j : Int} (h : thin out s i j) (hj : j < out.length) : gt s j = gt out j := by
  obtain ⟨h1, h2, h3, h4, h5, h6⟩ := h
  have a := drop_gt (l := s) (i := j) (by omega) (by omega)
  have b := drop_gt (l := out) (i := j) (by omega) hj
  rw [h6, b] at a
  exact (List.cons.inj a).1.symm
theorem thin_keep {out s : List Span} {i j : Int} (h : thin out s i j) (hj : j < out.length) (hb : (gt s j).1 < (gt s j).2) : thin out (s.set i.toNat (gt s j)) (i + 1) (j + 1) := by
  have e := thin_gt h hj
  obtain ⟨h1, h2, h3, h4, h5, h6⟩ := h
  refine ⟨by omega, by omega, by omega, by simp [h4], ?_, ?_⟩
  · rw [take_set_succ h1 (by omega), h5, take_gt (by omega) hj, notBare_snoc, ← e, if_pos hb]
  · rw [drop_set_lt h1 (by omega)]
    have a := drop_gt (l := s) (i := j) (by omega) (by omega)
    have b := drop_gt (l := out) (i := j) (by omega) hj
    rw [h6, b] at a
    exact (List.cons.inj a).2.symm
theorem thin_drop {out s : List Span} {i j : Int} (h : thin out s i j) (hj : j < out.length) (hb : ¬ (gt s j).1 < (gt s j).2) : thin out s i (j + 1) := by
  have e := thin_gt h hj
  obtain ⟨h1, h2, h3, h4, h5, h6⟩ := h
  refine ⟨by omega, by omega, by omega, h4, ?_, ?_⟩
  · rw [h5, take_gt (by omega) hj, notBare_snoc, ← e, if_neg hb, List.append_nil]
  · have a := drop_gt (l := s) (i := j) (by omega) (by omega)
    have b := drop_gt (l := out) (i := j) (by omega) hj
    rw [h6, b] at a
    exact (List.cons.inj a).2.symm
theorem thin_start {out : List Span} {x : Int} (h0 : 0 ≤ x) (h1 : x < out.length) (h2 : ∀ j, 0 ≤ j → j < x → (gt out j).1 < (gt out j).2) (h3 : ¬ (gt out x).1 < (gt out x).2) : thin out out x (x + 1) := by
  refine ⟨h0, by omega, by omega, rfl, ?_, rfl⟩
  rw [take_gt h0 h1, notBare_snoc, if_neg h3, List.append_nil, notBare_all]
  intro j a b
  rw [List.length_take] at b
  rw [gt_take a (by omega)]
  exact h2 j a (by omega)
theorem thin_end {out s : List Span} {i j : Int} (h : thin out s i j) (hj : ¬ j < out.length) : s.take i.toNat = notBare out := by
  obtain ⟨h1, h2, h3, h4, h5, h6⟩ := h
  rw [h5, List.take_of_length_le (by omega)]
/-! functions -/
abbrev spanPre (s : Span) : Prop := 0 ≤ s.1 ∧ s.1 ≤ s.2 ∧ s.2 ≤ 1000000
abbrev spansPre (l : List Span) : Prop := l.length ≤ 100000 ∧ sepFrom (-1) l
def without (l : List Span) (s : Span) : List Span := canonOf fun i => inSp l i ∧ ¬ (s.1 ≤ i ∧ i < s.2)
def withSp (l : List Span) (s : Span) : List Span := canonOf fun i => inSp l i ∨ (s.1 ≤ i ∧ i < s.2)
def spans_Without_ct : Ct := ⟨tys2 (.sl tSpan) tSpan, [.own tSpan], fun x => spansPre x.1 ∧ spanPre x.2, fun x => without x.1 x.2⟩
def spans_Without_ctv : Ct := ⟨tys2 (.sl tSpan) tSpan, [.val (.sl tSpan)], fun x => spansPre x.1 ∧ spanPre x.2, fun x => without x.1 x.2⟩
def spans_With_ct : Ct := ⟨tys2 (.sl tSpan) tSpan, [.own tSpan], fun x => spansPre x.1 ∧ spanPre x.2, fun x => withSp x.1 x.2⟩
def slices_Clone___api_Span_api_Span__ct : Ct := ⟨tys1 (.sl tSpan), [.own tSpan], fun l => fitM l, fun l => l⟩
def spansFault (size : Int) (l : List Span) (s : Span) : Int :=
  open Classical in if ¬ spansOk size l then 4 else if s.1 < 0 ∨ s.2 < s.1 ∨ size < s.2 then 2 else 0
def spans_fault_ct : Ct := ⟨tys3 tI (.sl tSpan) tSpan, [.val tI], fun x => fitL x.2.1, fun x => spansFault x.1 x.2.1 x.2.2⟩
def ref_spansFault_ct : Ct := spans_fault_ct
def spansFull (l : List Span) : List Span × Int := if 40 < l.length then ([], 8) else (l, 0)
def spansCut (size : Int) (l : List Span) (s : Span) : List Span × Int := if spansFault size l s ≠ 0 then ([], spansFault size l s) else spansFull (without l s)
def spansAdd (size : Int) (l : List Span) (s : Span) : List Span × Int := if spansFault size l s ≠ 0 then ([], spansFault size l s) else spansFull (withSp l s)
def spans_Cut_ct : Ct := ⟨tys3 tI (.sl tSpan) tSpan, [.own tSpan, .val tI], fun x => fitL x.2.1, fun x => spansCut x.1 x.2.1 x.2.2⟩
def spans_Add_ct : Ct := ⟨tys3 tI (.sl tSpan) tSpan, [.own tSpan, .val tI], fun x => fitL x.2.1, fun x => spansAdd x.1 x.2.1 x.2.2⟩
def spansSet (size : Int) (l : List Span) (s : Span) (add : Bool) : List Span × Int := if add = true then spansAdd size l s else spansCut size l s
def ref_SpansSet_ct : Ct := ⟨.cons tI (.cons (.sl tSpan) (.cons tSpan (.cons .bool .nil))), [.own tSpan, .val tI], fun x => fitL x.2.1, fun x => spansSet x.1 x.2.1 x.2.2.1 x.2.2.2⟩
def maskOf (size : Int) (l : List Span) : List Bool := (List.range size.toNat).map fun k : Nat => bo (inSp l (k : Int))
def ref_inSet_ct : Ct := ⟨tys2 tI (.sl tSpan), [.own .bool], fun x => spansOk x.1 x.2, fun x => maskOf x.1 x.2⟩
def setOf (m : List Bool) : List Span × Int := spansFull (canonOf fun i => 0 ≤ i ∧ i < m.length ∧ gt m i = true)
abbrev maskPre (m : List Bool) : Prop := m.length ≤ 100000
def ref_setOf_ct : Ct := ⟨tys1 (.sl .bool), [.own tSpan, .val tI], fun m => maskPre m, fun m => setOf m⟩
def taken (l : List Span) (many : Int) : Span := ((gt l 0).1, (gt l 0).1 + min many ((gt l 0).2 - (gt l 0).1))
def spansTake (size : Int) (l : List Span) (many : Int) : Span × List Span × Int :=
  open Classical in
  if ¬ spansOk size l then ((0, 0), [], 4) else if many < 1 then ((0, 0), [], 2) else if l = [] then ((0, 0), [], 7)
  else (taken l many, without l (taken l many), 0)
def spans_Take_ct : Ct := ⟨tys3 tI (.sl tSpan) tI, [.val tSpan, .val (.sl tSpan), .val tI], fun x => fitL x.2.1, fun x => spansTake x.1 x.2.1 x.2.2⟩
abbrev takePre (l : List Span) (many : Int) : Prop := fitL l ∧ inI64 many
def ref_SpansTake_ct : Ct := ⟨tys3 tI (.sl tSpan) tI, [.val tSpan, .own tSpan, .val tI], fun x => takePre x.2.1 x.2.2, fun x => spansTake x.1 x.2.1 x.2.2⟩
abbrev ascOk : List Span → Prop := fun l => l.length ≤ 100001 ∧ (∀ s ∈ l, spanPre s) ∧ l.Pairwise fun a b => a.1 ≤ b.1
def joined (l : List Span) : List Span := canonOf (inSp l)
def spans_Joined_ct : Ct := ⟨tys1 (.sl tSpan), [.own tSpan], fun l => ascOk l, fun l => joined l⟩
def law_sameSpans_ct : Ct := ⟨tys2 (.sl tSpan) (.sl tSpan), [.val .bool], fun x => fitL x.1 ∧ fitL x.2, fun x => bo (x.1 = x.2)⟩
theorem spansOk_pre {size : Int} {l : List Span} (h : spansOk size l) : spansPre l :=
  ⟨by have := h.2.2.1; omega, sep_weak (by have := h.2.1; omega) (Int.le_refl _) h.2.2.2⟩
theorem spansFault_ok {size : Int} {l : List Span} {s : Span} (h : spansFault size l s = 0) : spansPre l ∧ spanPre s := by
  unfold spansFault at h
  split at h
  · omega
  · rename_i ok
    have ok := Classical.byContradiction ok
    split at h
    · omega
    · have := ok.2.1
      exact ⟨spansOk_pre ok, by omega, by omega, by omega⟩
theorem mask_gt {size : Int} {l : List Span} {j : Int} (h0 : 0 ≤ j) (h1 : j < size) : gt (maskOf size l) j = bo (inSp l j) := by
  unfold maskOf
  rw [gt_in h0 (by simp; omega)]
  simp only [List.getElem_map, List.getElem_range]
  rw [show ((j.toNat : Nat) : Int) = j by omega]
theorem mask_len {size : Int} {l : List Span} : (maskOf size l).length = size.toNat := by simp [maskOf]
theorem spansFault_all {size : Int} {l : List Span} {s : Span} (h : spansFault size l s = 0) : spansOk size l ∧ 0 ≤ s.1 ∧ s.1 ≤ s.2 ∧ s.2 ≤ size := by
  unfold spansFault at h
  split at h
  · omega
  · rename_i ok
    have ok := Classical.byContradiction ok
    split at h
    · omega
    · exact ⟨ok, by omega, by omega, by omega⟩
theorem spansSet_bad {size : Int} {l : List Span} {s : Span} {add : Bool} (h : spansFault size l s ≠ 0) : spansSet size l s add = ([], spansFault size l s) := by
  unfold spansSet spansAdd spansCut
  rw [if_pos h, if_pos h]
  split <;> rfl
theorem spansSet_ok {size : Int} {l : List Span} {s : Span} {add : Bool} (h : spansFault size l s = 0) : spansSet size l s add = spansFull (if add = true then withSp l s else without l s) := by
  cases add
  · have : spansSet size l s false = spansCut size l s := by simp [spansSet]
    rw [this]; unfold spansCut
    rw [if_neg (by rw [h]; simp), if_neg (by simp)]
  · have : spansSet size l s true = spansAdd size l s := by simp [spansSet]
    rw [this]; unfold spansAdd
    rw [if_neg (by rw [h]; simp), if_pos rfl]
theorem spansFull_len (l : List Span) : (spansFull l).1.length ≤ 40 := by
  unfold spansFull
  split
  · simp
  · simp only; omega
theorem spansCut_len (size : Int) (l : List Span) (s : Span) : fitL (spansCut size l s).1 := by
  unfold spansCut fitL
  split
  · simp
  · have := spansFull_len (without l s); omega
theorem spansAdd_len (size : Int) (l : List Span) (s : Span) : fitL (spansAdd size l s).1 := by
  unfold spansAdd fitL
  split
  · simp
  · have := spansFull_len (withSp l s); omega
/-- Without a first part of the first one. -/
theorem without_first {n hi : Int} {l : List Span} (h : spansOkFrom n (-1) l) (hn : ¬ l = []) (h0 : (gt l 0).1 ≤ hi) (h1 : hi ≤ (gt l 0).2) (hb : n ≤ 1000000 := by omega) : (without l ((gt l 0).1, hi)).length ≤ l.length := by
  obtain ⟨x, r, rfl⟩ := List.exists_cons_of_ne_nil hn
  have e : gt (x :: r) 0 = x := rfl
  rw [e] at h0 h1 ⊢
  obtain ⟨a1, a2, a3, a4⟩ := h
  have sr : sepFrom x.2 r := sep_weak hb (Int.le_refl _) a4
  have key : without (x :: r) (x.1, hi) = (if hi < x.2 then [(hi, x.2)] else []) ++ r := by
    refine canon_eq ⟨?_, fun i => ?_⟩
    · split
      · exact ⟨by simp only; omega, by simp only; omega, by simp only; omega, sr⟩
      · exact sep_weak (Int.le_refl _) (by omega) sr
    · change _ ↔ inSp (x :: r) i ∧ ¬ (x.1 ≤ i ∧ i < hi)
      rw [inSp_app, inSp_cons]
      have bd : inSp r i → x.2 < i := fun c => (sep_in sr c).1
      constructor
      · rintro (c | c)
        · split at c
          · have := inSp_one.1 c
            simp only at this
            exact ⟨.inl (by omega), by omega⟩
          · exact absurd c (inSp_nil i)
        · have := bd c
          exact ⟨.inr c, by omega⟩
      · rintro ⟨c | c, d⟩
        · rw [if_pos (by omega)]
          exact .inl (inSp_one.2 (by simp only; omega))
        · exact .inr c
  rw [key]
  split <;> simp
theorem spansTake_len (size : Int) (l : List Span) (many : Int) : fitL (spansTake size l many).2.1 := by
  unfold spansTake fitL
  split
  · simp
  · rename_i ok
    have ok := Classical.byContradiction ok
    split
    · simp
    · split
      · simp
      · rename_i h1 h2
        have m := sep_mem ok.2.2.2 _ (gt_mem (l := l) (i := 0) (by omega) (by have := List.length_pos_iff.2 h2; omega))
        have hs := ok.2.1
        have l40 := ok.2.2.1
        have := without_first ok.2.2.2 h2 (hi := (taken l many).2) (by simp only [taken]; omega) (by simp only [taken]; omega)
        have e : ((gt l 0).1, (taken l many).2) = taken l many := rfl
        rw [e] at this
        simp only
        omega
end
end Go.Fu
