/-
  One edit over another one: when they touch the same, what comes of it.
-/
import Derived.Test.YtcgggoaefceokaaVpI
import Derived.Test.YtcgggoaefceokaaVpJ
set_option linter.unusedVariables false
set_option linter.unusedSimpArgs false
namespace Go.Fu
open Go.Vc
noncomputable section
def clashAt (a b : Edit) (i : Int) : Prop := (editCuts a i ∧ editCuts b i) ∨ (a.2.2 ≠ [] ∧ a.1 = i ∧ editCuts b (i - 1) ∧ editCuts b i) ∨ (b.2.2 ≠ [] ∧ b.1 = i ∧ editCuts a (i - 1) ∧ editCuts a i)
theorem does_iff {size : Int} {e : Edit} (h : editFault size e = 0) : editDoes e ↔ ¬ editNothing e := by
  have := editMay_iff.1 h
  unfold editDoes editNothing
  constructor
  · rintro (c | c) ⟨d, f⟩
    · omega
    · exact c f
  · intro c
    by_cases f : e.2.2 = []
    · exact .inl (by
        rcases Int.lt_or_le 0 e.2.1 with d | d
        · exact d
        · exact absurd ⟨by omega, f⟩ c)
    · exact .inr f
theorem clash_iff {size : Int} {a b : Edit} (ha : editFault size a = 0) (hb : editFault size b = 0) : editClash a b ↔ (editDoes a ∧ editDoes b) ∧ ∃ i, 0 ≤ i ∧ i < size ∧ clashAt a b i := by
  rw [does_iff ha, does_iff hb]
  have h1 := editMay_iff.1 ha
  have h2 := editMay_iff.1 hb
  unfold editClash clashAt editWithin
  simp only [editCuts]
  constructor
  · rintro ⟨c, d, g⟩
    refine ⟨⟨c, d⟩, ?_⟩
    rcases g with g | g | g
    · exact ⟨max a.1 b.1, by omega, by omega, .inl ⟨by omega, by omega⟩⟩
    · exact ⟨a.1, by omega, by omega, .inr (.inl ⟨g.1, rfl, by omega, by omega⟩)⟩
    · exact ⟨b.1, by omega, by omega, .inr (.inr ⟨g.1, rfl, by omega, by omega⟩)⟩
  · rintro ⟨⟨c, d⟩, i, _, _, g⟩
    refine ⟨c, d, ?_⟩
    rcases g with g | g | g
    · exact .inl (by omega)
    · exact .inr (.inl ⟨g.1, by omega, by omega⟩)
    · exact .inr (.inr ⟨g.1, by omega, by omega⟩)
theorem editOver_a {size : Int} {a b : Edit} (h : editFault size a ≠ 0) : editOver size a b = ((0, 0, []), editFault size a) := by
  simp only [editOver, if_pos h]
theorem editOver_b {size : Int} {a b : Edit} (ha : editFault size a = 0) (h : editFault size b ≠ 0) : editOver size a b = ((0, 0, []), editFault size b) := by
  simp only [editOver, ha, ne_eq, not_true_eq_false, if_false, if_pos h]
theorem editOver_c {size : Int} {a b : Edit} (ha : editFault size a = 0) (hb : editFault size b = 0) (h : editClash a b) : editOver size a b = ((0, 0, []), 10) := by
  simp only [editOver, ha, hb, ne_eq, not_true_eq_false, if_false, if_pos h]
theorem editOver_d {size : Int} {a b : Edit} (ha : editFault size a = 0) (hb : editFault size b = 0) (hc : ¬ editClash a b) (h : editFault (size - b.2.1 + b.2.2.length) (overAt a b, a.2.1, a.2.2) ≠ 0) : editOver size a b = ((0, 0, []), editFault (size - b.2.1 + b.2.2.length) (overAt a b, a.2.1, a.2.2)) := by
  simp only [editOver, ha, hb, ne_eq, not_true_eq_false, if_false, if_neg hc, if_pos h]
theorem editOver_e {size : Int} {a b : Edit} (ha : editFault size a = 0) (hb : editFault size b = 0) (hc : ¬ editClash a b) (h : editFault (size - b.2.1 + b.2.2.length) (overAt a b, a.2.1, a.2.2) = 0) : editOver size a b = ((overAt a b, a.2.1, a.2.2), 0) := by
  simp only [editOver, ha, hb, ne_eq, not_true_eq_false, if_false, if_neg hc, h]
theorem overAt_eq {a b : Edit} {p : Prop} (h : p ↔ (a.1 = b.1 ∧ b.2.1 = 0) ∧ (0 < a.2.1 ∨ Op.bytesLess b.2.2 a.2.2 = true)) : moved b a.1 (bo p) = overAt a b := by
  unfold overAt
  rw [bo_congr (h.trans and_assoc)]
theorem moved_bd {size : Int} {a b : Edit} (ha : editFault size a = 0) (hb : editFault size b = 0) (r : Bool) : 0 ≤ moved b a.1 r ∧ moved b a.1 r ≤ 1200 := by
  have h1 := editMay_iff.1 ha
  have h2 := editMay_iff.1 hb
  unfold moved
  split
  · omega
  · split
    · omega
    · split <;> omega
theorem over_tail {size : Int} {a b : Edit} {p : Prop} {n : Int} (hf : editFits a) (ha : editFault size a = 0) (hb : editFault size b = 0) (hc : ¬ editClash a b)
    (h : p ↔ (a.1 = b.1 ∧ b.2.1 = 0) ∧ (0 < a.2.1 ∨ Op.bytesLess b.2.2 a.2.2 = true)) (hn : n = size - b.2.1 + b.2.2.length) :
    (inI64 n ∧ editFits (moved b a.1 (bo p), a.2)) ∧
    (editFault n (moved b a.1 (bo p), a.2) ≠ 0 → (0, 0, []) = (editOver size a b).1 ∧ editFault n (moved b a.1 (bo p), a.2) = (editOver size a b).2) ∧
    (¬ editFault n (moved b a.1 (bo p), a.2) ≠ 0 → (moved b a.1 (bo p), a.2) = (editOver size a b).1 ∧ 0 = (editOver size a b).2) := by
  have h1 := editMay_iff.1 ha
  have h2 := editMay_iff.1 hb
  have bd := moved_bd ha hb (bo p)
  rw [overAt_eq h] at *
  subst hn
  refine ⟨⟨by simp only [inI_iff]; omega, by simp only [inI_iff]; omega, hf.2.1, hf.2.2⟩, fun q => ?_, fun q => ?_⟩
  · rw [editOver_d ha hb hc q]; exact ⟨rfl, rfl⟩
  · rw [editOver_e ha hb hc (Classical.byContradiction q)]; exact ⟨rfl, rfl⟩
end
end Go.Fu
