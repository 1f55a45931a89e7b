/-
  One edit over another one; spans of whole lines.
-/
import Derived.Test.YtfelfimcnidplaaVpG
set_option linter.unusedVariables false
set_option linter.unusedSimpArgs false
namespace Go.Fu
open Go.Vc
noncomputable section
/-! one edit over another one -/
def overAt (a b : Edit) : Int := moved b a.1 (bo (a.1 = b.1 ∧ b.2.1 = 0 ∧ (0 < a.2.1 ∨ Op.bytesLess b.2.2 a.2.2 = true)))
def editOver (size : Int) (a b : Edit) : Edit × Int :=
  open Classical in
  if editFault size a ≠ 0 then ((0, 0, []), editFault size a)
  else if editFault size b ≠ 0 then ((0, 0, []), editFault size b)
  else if editClash a b then ((0, 0, []), 10)
  else if editFault (size - b.2.1 + b.2.2.length) (overAt a b, a.2.1, a.2.2) ≠ 0 then ((0, 0, []), editFault (size - b.2.1 + b.2.2.length) (overAt a b, a.2.1, a.2.2))
  else ((overAt a b, a.2.1, a.2.2), 0)
def edit_Over_ct : Ct := ⟨tys3 tI tEdit tEdit, [.val tEdit, .val tI], fun x => inI64 x.1 ∧ editFits x.2.1 ∧ editFits x.2.2, fun x => editOver x.1 x.2.1 x.2.2⟩
def ref_EditOver_ct : Ct := edit_Over_ct

abbrev editDoes (e : Edit) : Prop := 0 < e.2.1 ∨ e.2.2 ≠ []
abbrev editCuts (e : Edit) (i : Int) : Prop := e.1 ≤ i ∧ i < e.1 + e.2.1
def ref_EditOver_1_ct : Ct := ⟨tys1 tEdit, [.val .bool], fun _ => True, fun e => bo (editDoes e)⟩
def ref_EditOver_2_ct : Ct := ⟨tys2 tEdit tI, [.val .bool], fun x => endFits x.1, fun x => bo (editCuts x.1 x.2)⟩
theorem less_iff : ∀ {a b : Bytes}, Op.bytesLess b a = true ↔ ¬ (Op.bytesLess a b = true ∨ a = b)
  | [], b => by cases b <;> simp [Op.bytesLess]
  | x :: a, [] => by simp [Op.bytesLess]
  | x :: a, y :: b => by
    have ih := less_iff (a := a) (b := b)
    simp only [Op.bytesLess, Bool.or_eq_true, decide_eq_true_eq, Bool.and_eq_true, beq_iff_eq, List.cons.injEq, ih, UInt8.lt_iff_toNat_lt]
    have e : x = y ↔ x.toNat = y.toNat := UInt8.toNat_inj.symm
    have e' : y = x ↔ y.toNat = x.toNat := UInt8.toNat_inj.symm
    rw [e, e']
    constructor
    · rintro (h | ⟨h, g⟩)
      · omega
      · rintro ((c | c) | c)
        · omega
        · exact g (.inl c.2)
        · exact g (.inr c.2)
    · intro h
      rcases Nat.lt_trichotomy x.toNat y.toNat with c | c | c
      · exact absurd (.inl (.inl c)) h
      · refine .inr ⟨c.symm, ?_⟩
        rintro (d | d)
        · exact h (.inl (.inr ⟨c, d⟩))
        · exact h (.inr ⟨c, d⟩)
      · exact .inl c

/-! whole lines -/
def lineLo (s : Bytes) (lo : Int) : Int := Classical.epsilon fun r => 0 ≤ r ∧ r ≤ lo ∧ (∀ j, r ≤ j → j < lo → gt s j ≠ 10) ∧ (0 < r → gt s (r - 1) = 10)
theorem lineLo_eq {s : Bytes} {lo r : Int} (h : 0 ≤ r ∧ r ≤ lo ∧ (∀ j, r ≤ j → j < lo → gt s j ≠ 10) ∧ (0 < r → gt s (r - 1) = 10)) : lineLo s lo = r := by
  have g := Classical.epsilon_spec (p := fun r => 0 ≤ r ∧ r ≤ lo ∧ (∀ j, r ≤ j → j < lo → gt s j ≠ 10) ∧ (0 < r → gt s (r - 1) = 10)) ⟨r, h⟩
  change _ ∧ _ at g
  obtain ⟨h0, h1, h2, h3⟩ := h
  obtain ⟨g0, g1, g2, g3⟩ := g
  simp only [lineLo]
  rcases Int.lt_trichotomy (Classical.epsilon fun r => 0 ≤ r ∧ r ≤ lo ∧ (∀ j, r ≤ j → j < lo → gt s j ≠ 10) ∧ (0 < r → gt s (r - 1) = 10)) r with c | c | c
  · exact absurd (h3 (by omega)) (g2 _ (by omega) (by omega))
  · exact c
  · exact absurd (g3 (by omega)) (h2 _ (by omega) (by omega))
/-- The end of the line that goes on at hi, its line feed with it. -/
def hiOk (s : Bytes) (hi r : Int) : Prop := hi ≤ r ∧ r ≤ s.length ∧ (∀ j, hi ≤ j → j < r - 1 → gt s j ≠ 10) ∧ ((r < s.length ∨ hi < r ∧ gt s (r - 1) = 10) → hi < r ∧ gt s (r - 1) = 10)
theorem hiOk_uniq {s : Bytes} {hi q r : Int} (h : hiOk s hi r) (g : hiOk s hi q) : q = r := by
  obtain ⟨h0, h1, h2, h3⟩ := h
  obtain ⟨g0, g1, g2, g3⟩ := g
  rcases Int.lt_trichotomy q r with c | c | c
  · have := g3 (.inl (by omega))
    exact absurd this.2 (h2 _ (by omega) (by omega))
  · exact c
  · have := h3 (.inl (by omega))
    exact absurd this.2 (g2 _ (by omega) (by omega))
def lineHi (s : Bytes) (hi : Int) : Int := Classical.epsilon (hiOk s hi)
theorem lineHi_eq {s : Bytes} {hi r : Int} (h : hiOk s hi r) : lineHi s hi = r :=
  hiOk_uniq h (Classical.epsilon_spec (p := hiOk s hi) ⟨r, h⟩)
def widened (s : Bytes) (x : Int × Int) : Int × Int := (lineLo s x.1, lineHi s x.2)
abbrev widPre (s : Bytes) (x : Int × Int) : Prop := s.length ≤ 1000000 ∧ 0 ≤ x.1 ∧ x.1 ≤ x.2 ∧ x.2 ≤ s.length
def spans_Widened_ct : Ct := ⟨tys2 .str tSpan, [.val tSpan], fun x => widPre x.1 x.2, fun x => widened x.1 x.2⟩
def spansWiden (s : Bytes) (x : Int × Int) : (Int × Int) × Int :=
  if 600 < s.length then ((0, 0), 1) else if x.1 < 0 ∨ x.2 < x.1 ∨ (s.length : Int) < x.2 then ((0, 0), 2) else (widened s x, 0)
def spans_Widen_ct : Ct := ⟨tys2 .str tSpan, [.val tSpan, .val tI], fun x => fitS x.1, fun x => spansWiden x.1 x.2⟩
def ref_SpansWiden_ct : Ct := spans_Widen_ct
end
end Go.Fu
