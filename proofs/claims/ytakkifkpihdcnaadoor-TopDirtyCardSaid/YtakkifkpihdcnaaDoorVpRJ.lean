/-
  Spans joined: those that ascend by where they begin.
-/
import Derived.Test.YtakkifkpihdcnaaDoorVpR
set_option linter.unusedVariables false
set_option linter.unusedSimpArgs false
namespace Go.Fu
open Go.Vc
theorem canon_more {P : Int → Prop} {m : List Span} {t s : Span} (h : isCanon P (m ++ [t])) (h1 : t.1 ≤ s.1) (h2 : s.1 ≤ t.2) (h3 : s.1 ≤ s.2) (h4 : s.2 ≤ 1000000) : isCanon (fun i => P i ∨ (s.1 ≤ i ∧ i < s.2)) (m ++ [(t.1, max t.2 s.2)]) := by
  obtain ⟨g1, g2⟩ := h
  obtain ⟨k1, k2, k3, k4⟩ := sep_snoc.1 g1
  refine ⟨sep_snoc.2 ⟨k1, k2, by show t.1 < max t.2 s.2; omega, by show max t.2 s.2 ≤ 1000000; omega⟩, fun i => ?_⟩
  have e := g2 i
  rw [inSp_app, inSp_one] at e
  rw [inSp_app, inSp_one]
  show inSp m i ∨ (t.1 ≤ i ∧ i < max t.2 s.2) ↔ (P i ∨ (s.1 ≤ i ∧ i < s.2))
  rw [← e]
  constructor
  · rintro (a | a)
    · exact .inl (.inl a)
    · by_cases c : i < t.2
      · exact .inl (.inr ⟨a.1, c⟩)
      · exact .inr (by omega)
  · rintro ((a | a) | a)
    · exact .inl a
    · exact .inr (by omega)
    · exact .inr (by omega)
theorem canon_next {P : Int → Prop} {m : List Span} {s : Span} (h : isCanon P m) (h1 : lastEnd (-1) m < s.1) (h3 : s.1 < s.2) (h4 : s.2 ≤ 1000000) : isCanon (fun i => P i ∨ (s.1 ≤ i ∧ i < s.2)) (m ++ [s]) := by
  obtain ⟨g1, g2⟩ := h
  refine ⟨sep_snoc.2 ⟨g1, h1, h3, h4⟩, fun i => ?_⟩
  rw [inSp_app, inSp_one, g2 i]
structure Jn (l : List Span) (x : Int) (out : List Span) : Prop where
  canon : isCanon (inSp (l.take x.toNat)) out
  lo : ∀ t ∈ out, ∀ j : Int, x ≤ j → j < l.length → t.1 ≤ (gt l j).1
  len : (out.length : Int) ≤ x
theorem Jn.init (l : List Span) : Jn l 0 [] :=
  ⟨⟨trivial, fun i => by simp [inSp_nil]⟩, fun t h => by simp at h, by simp⟩
section
variable {l out : List Span} {x : Int}
theorem inSp_succ (h0 : 0 ≤ x) (h1 : x < l.length) (i : Int) : inSp (l.take (x + 1).toNat) i ↔ inSp (l.take x.toNat) i ∨ ((gt l x).1 ≤ i ∧ i < (gt l x).2) := by
  rw [take_gt h0 h1, inSp_app, inSp_one]
theorem Jn.skip (h : Jn l x out) (h0 : 0 ≤ x) (h1 : x < l.length) (e : (gt l x).1 = (gt l x).2) : Jn l (x + 1) out :=
  ⟨⟨h.canon.1, fun i => by
    rw [inSp_succ h0 h1, h.canon.2 i]
    constructor
    · exact .inl
    · rintro (a | a)
      · exact a
      · omega⟩, fun t ht j a b => h.lo t ht j (by omega) b, by have := h.len; omega⟩
theorem asc_gt {l : List Span} (h : ascOk l) {i j : Int} (h0 : 0 ≤ i) (h1 : i < j) (h2 : j < l.length) : (gt l i).1 ≤ (gt l j).1 := by
  have := List.pairwise_iff_getElem.1 h.2.2 i.toNat j.toNat (by omega) (by omega) (by omega)
  rw [gt_in h0 (by omega), gt_in (by omega) h2]
  exact this
theorem Jn.more (h : Jn l x out) (ha : ascOk l) (h0 : 0 ≤ x) (h1 : x < l.length) (hn : 0 < out.length) (e : (gt l x).1 ≤ (gt out ((out.length : Int) - 1)).2) :
    Jn l (x + 1) (out.set ((out.length : Int) - 1).toNat ((gt out ((out.length : Int) - 1)).1, max (gt out ((out.length : Int) - 1)).2 (gt l x).2)) := by
  obtain ⟨m, t, rfl, e1, e2⟩ := concat_of (l := out) (fun q => by rw [q] at hn; simp at hn)
  have sp := ha.2.1 _ (gt_mem h0 h1)
  rw [e1] at e
  rw [e2, e1]
  have tl := h.lo t (by simp) x (Int.le_refl _) h1
  have cm := canon_more h.canon tl e sp.2.1 sp.2.2
  refine ⟨⟨cm.1, fun i => by rw [cm.2 i, inSp_succ h0 h1]⟩, fun u hu j a b => ?_, by have := h.len; simp only [List.length_append, List.length_singleton] at *; omega⟩
  simp only [List.mem_append, List.mem_singleton] at hu
  rcases hu with hu | rfl
  · exact h.lo u (by simp [hu]) j (by omega) b
  · exact h.lo t (by simp) j (by omega) b
theorem Jn.next (h : Jn l x out) (ha : ascOk l) (h0 : 0 ≤ x) (h1 : x < l.length) (e : ¬ (gt l x).1 = (gt l x).2) (hn : ¬ (0 < out.length ∧ (gt l x).1 ≤ (gt out ((out.length : Int) - 1)).2)) : Jn l (x + 1) (out ++ [gt l x]) := by
  have sp := ha.2.1 _ (gt_mem h0 h1)
  have le : lastEnd (-1) out < (gt l x).1 := by
    by_cases q : out = []
    · subst q; show -1 < _; have := sp.1; omega
    · have ql : 0 < out.length := List.length_pos_iff.2 q
      rw [lastEnd_gt q]
      exact Classical.byContradiction fun w => hn ⟨ql, by omega⟩
  have cn := canon_next h.canon le (by have := sp.2.1; omega) sp.2.2
  refine ⟨⟨cn.1, fun i => by rw [cn.2 i, inSp_succ h0 h1]⟩, fun u hu j a b => ?_, by have := h.len; simp only [List.length_append, List.length_singleton]; omega⟩
  simp only [List.mem_append, List.mem_singleton] at hu
  rcases hu with hu | rfl
  · exact h.lo u hu j (by omega) b
  · exact asc_gt ha h0 (by omega) b
theorem Jn.fin (h : Jn l x out) (hx : ¬ x < l.length) : out = joined l := by
  have c := h.canon
  rw [List.take_of_length_le (by omega)] at c
  exact (canon_eq c).symm
end
/-- A span put in where it begins. -/
noncomputable def spInsert (l : List Span) (i : Int) (s : Span) : List Span := l.take i.toNat ++ [s] ++ l.drop i.toNat
theorem ins_asc {l : List Span} {s : Span} {i : Int} (hl : spansPre l) (hs : spanPre s) (h0 : 0 ≤ i) (h1 : i ≤ l.length) (lo : ∀ j : Int, 0 ≤ j → j < i → (gt l j).1 < s.1) (hi : ∀ j : Int, i ≤ j → j < l.length → s.1 ≤ (gt l j).1) : ascOk (spInsert l i s) := by
  have hm : ∀ x ∈ l, spanPre x := fun x hx => by
    have := sep_mem hl.2 x hx
    exact ⟨by omega, by omega, this.2.2⟩
  have pw : ∀ {l : List Span} {a : Int}, sepFrom a l → l.Pairwise fun a b => a.1 ≤ b.1 := by
    intro l
    induction l with
    | nil => intro a _; exact .nil
    | cons s l ih =>
      intro a h
      refine .cons (fun b hb => ?_) (ih h.2.2.2)
      have := sep_mem h.2.2.2 b hb
      have := h.2.1
      omega
  have pl := pw hl.2
  refine ⟨?_, fun x hx => ?_, ?_⟩
  · unfold spInsert; simp only [List.length_append, List.length_take, List.length_singleton, List.length_drop]; have := hl.1; omega
  · unfold spInsert at hx
    simp only [List.mem_append, List.mem_singleton] at hx
    rcases hx with (hx | rfl) | hx
    · exact hm x (List.mem_of_mem_take hx)
    · exact hs
    · exact hm x (List.mem_of_mem_drop hx)
  · unfold spInsert
    rw [List.append_assoc, List.pairwise_append]
    refine ⟨pl.sublist (List.take_sublist _ _), ?_, fun a ha b hb => ?_⟩
    · rw [List.singleton_append, List.pairwise_cons]
      refine ⟨fun b hb => ?_, pl.sublist (List.drop_sublist _ _)⟩
      obtain ⟨j, j0, j1, rfl⟩ := mem_gt hb
      rw [gt_drop j0]
      simp only [List.length_drop] at j1
      exact hi _ (by omega) (by omega)
    · obtain ⟨j, j0, j1, rfl⟩ := mem_gt ha
      simp only [List.length_take] at j1
      rw [gt_take j0 (by omega)]
      have l1 := lo j j0 (by omega)
      simp only [List.singleton_append, List.mem_cons] at hb
      rcases hb with rfl | hb
      · omega
      · obtain ⟨k, k0, k1, rfl⟩ := mem_gt hb
        rw [gt_drop k0]
        simp only [List.length_drop] at k1
        have := hi (k + i.toNat) (by omega) (by omega)
        omega
theorem ins_joined {l : List Span} {s : Span} {i : Int} : joined (spInsert l i s) = withSp l s := by
  unfold joined withSp
  refine canon_congr fun j => ?_
  unfold spInsert
  rw [inSp_app, inSp_app, inSp_one]
  have e : inSp l j ↔ inSp (l.take i.toNat) j ∨ inSp (l.drop i.toNat) j := by
    conv => lhs; rw [← List.take_append_drop i.toNat l]
    rw [inSp_app]
  rw [e]
  constructor
  · rintro ((a | a) | a)
    · exact .inl (.inl a)
    · exact .inr a
    · exact .inl (.inr a)
  · rintro ((a | a) | a)
    · exact .inl (.inl a)
    · exact .inr a
    · exact .inl (.inr a)
end Go.Fu
