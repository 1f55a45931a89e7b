/- The contracts of the functions that the law reaches, and that of the law. Conditions: none. -/
import Derived.Test.YtcgggoaefceokaaWLinesLines
set_option linter.unusedVariables false
set_option linter.unusedSimpArgs false
set_option maxRecDepth 100000
namespace Go.Proofs.Ytcgggoaefceokaa
open Go.Vc Go.Fu

theorem lines_may_hC : Cons Try.prog [] := trivial
theorem lines_may_con : Con Try.prog f_lines_may lines_may_ct := lines_may_vc lines_may_hC fun l hl => by
  simp only [inI_iff, true_and, and_true, ne_eq, Int.reduceEq, not_false_eq_true, Int.toNat_zero, fitL, false_bo, bo_eq_bo, startsOk] at *
  refine ⟨fun x => 0 ≤ x ∧ x ≤ l.length ∧ ∀ i, 0 < i → i < x → gt l (i - 1) < gt l i, fun x => (l.length - x).toNat, ⟨by omega, by omega, fun i a b => by omega⟩, ?_⟩
  rintro x ⟨h0, h1, h2⟩
  dsimp only
  refine ⟨fun t => ⟨h0, t, fun _ => by omega, fun _ => by omega, fun _ => by omega, fun u q => ?_, fun u => ⟨by omega, ⟨by omega, by omega, fun i a b => ?_⟩, by omega⟩⟩, fun t => ⟨fun _ => by omega, fun _ => by omega, fun _ => by omega, fun _ => by omega, fun _ => by omega, ?_⟩⟩
  · have := q.2.2.1 x u.1 t; omega
  · by_cases e : i = x
    · rw [e]; omega
    · exact h2 i a (by omega)
  · have e : ¬ l = [] ↔ 0 < (l.length : Int) := by rw [← ne_eq, ← List.length_pos_iff]; omega
    rw [e]
    exact ⟨fun ⟨⟨a, b⟩, c⟩ => ⟨a, b, fun i p q => h2 i p (by omega), c⟩, fun ⟨a, b, _, c⟩ => ⟨⟨a, b⟩, c⟩⟩

theorem lines_Line_hC : Cons Try.prog [(f_lines_may, lines_may_ct)] := ⟨lines_may_con, trivial⟩
theorem lines_Line_con : Con Try.prog f_lines_Line lines_Line_ct := lines_Line_vc lines_Line_hC fun l at_ hl => by
  simp only [inI_iff, true_and, and_true, ne_eq, Int.reduceEq, not_false_eq_true, Int.toNat_zero, linesLine, bo_true]
  refine ⟨hl, fun q => by rw [iteP_pos q]; exact ⟨rfl, rfl⟩, fun q => ?_⟩
  rw [iteP_neg q]
  have ok := Classical.byContradiction q
  simp only [startsOk] at ok
  obtain ⟨o1, o2, o3, o4⟩ := ok
  have hl' : l.length ≤ 140737488351232 := hl
  have hlen : 0 < l.length := List.length_pos_iff.2 o1
  refine ⟨fun r => by rw [if_pos r]; exact ⟨rfl, rfl⟩, fun r => ?_⟩
  rw [if_neg r]
  refine ⟨fun i j f g => f = l ∧ g = at_ ∧ 0 ≤ i ∧ i ≤ j ∧ j ≤ l.length ∧ (∀ k, 0 ≤ k → k < i → gt l k ≤ at_) ∧ (∀ k, j ≤ k → k < l.length → at_ < gt l k), fun i j _ _ => (j - i).toNat, ⟨rfl, rfl, by omega, by omega, by omega, fun k a b => by omega, fun k a b => by omega⟩, ?_⟩
  rintro i j f g ⟨rfl, rfl, h0, h1, h2, h3, h4⟩
  dsimp only
  refine ⟨fun t => ?_, fun t => ?_⟩
  · rw [half_u64 (by omega) (by omega)]
    have hm : i ≤ (i + j) / 2 ∧ (i + j) / 2 < j := by omega
    generalize (i + j) / 2 = h at *
    refine ⟨by omega, by omega, by omega, by omega, by omega, fun u => ⟨by omega, ⟨rfl, rfl, by omega, by omega, h2, fun k a b => ?_, h4⟩, by omega⟩, fun u => ⟨⟨rfl, rfl, h0, by omega, by omega, h3, fun k a b => ?_⟩, by omega⟩⟩
    · by_cases e : k = h
      · rw [e]; omega
      · have := starts_lt o3 (i := k) (j := h) a (by omega) (by omega); omega
    · by_cases e : k = h
      · rw [e]; omega
      · have := starts_lt o3 (i := h) (j := k) (by omega) (by omega) b; omega
  · have e : i = j := by omega
    subst e
    rw [lineAt_eq h0 h2 h3 fun h => h4 i (by omega) h]
    exact ⟨by omega, rfl, rfl⟩

theorem ref_startsMay_hC : Cons Try.prog [] := trivial
theorem ref_startsMay_con : Con Try.prog f_ref_startsMay ref_startsMay_ct := ref_startsMay_vc ref_startsMay_hC fun l hl => by
  simp only [inI_iff, true_and, and_true, ne_eq, Int.reduceEq, not_false_eq_true, Int.toNat_zero, fitL, false_bo, true_bo, startsOk] at *
  have e : ¬ l = [] ↔ 0 < (l.length : Int) := by rw [← ne_eq, ← List.length_pos_iff]; omega
  rw [e]
  refine ⟨fun _ => by omega, fun _ => by omega, fun q ⟨a, b, _, _⟩ => by rcases q with q | q <;> omega, fun q => ⟨fun x => 1 ≤ x ∧ x ≤ l.length ∧ ∀ i, 0 < i → i < x → gt l (i - 1) < gt l i ∧ gt l i ≤ 600, fun x => (l.length - x).toNat, ⟨by omega, by omega, fun i a b => by omega⟩, ?_⟩⟩
  rintro x ⟨h0, h1, h2⟩
  dsimp only
  refine ⟨fun t => ⟨by omega, t, by omega, by omega, by omega, fun _ => by omega, fun _ => t, fun u q => ?_, fun u => ⟨by omega, ⟨by omega, by omega, fun i a b => ?_⟩, by omega⟩⟩, fun t => ⟨by omega, by omega, fun i a b => (h2 i a (by omega)).1, ?_⟩⟩
  · have c1 := q.2.2.1 x (by omega) t
    by_cases c : x = l.length - 1
    · have := q.2.2.2; rw [← c] at this; omega
    · have := starts_lt q.2.2.1 (i := x) (j := l.length - 1) (by omega) (by omega) (by omega)
      have := q.2.2.2; omega
  · by_cases e : i = x
    · rw [e]; omega
    · exact h2 i a (by omega)
  · by_cases c : (l.length : Int) = 1
    · rw [show (l.length : Int) - 1 = 0 by omega]
      have : gt l 0 = 0 := Classical.byContradiction fun c => q (.inr c)
      omega
    · exact (h2 _ (by omega) (by omega)).2

theorem ref_LinesLine_hC : Cons Try.prog [(f_ref_startsMay, ref_startsMay_ct)] := ⟨ref_startsMay_con, trivial⟩
theorem ref_LinesLine_con : Con Try.prog f_ref_LinesLine ref_LinesLine_ct := ref_LinesLine_vc ref_LinesLine_hC fun l at_ hl => by
  simp only [inI_iff, true_and, and_true, ne_eq, Int.reduceEq, not_false_eq_true, Int.toNat_zero, linesLine, bo_true]
  refine ⟨hl, fun q => by rw [iteP_pos q]; exact ⟨rfl, rfl⟩, fun q => ?_⟩
  rw [iteP_neg q]
  have ok := Classical.byContradiction q
  simp only [startsOk] at ok
  obtain ⟨o1, o2, o3, o4⟩ := ok
  have hl' : l.length ≤ 140737488351232 := hl
  have hlen : 0 < l.length := List.length_pos_iff.2 o1
  refine ⟨fun r => by rw [if_pos r]; exact ⟨rfl, rfl⟩, fun r => ?_⟩
  rw [if_neg r]
  refine ⟨fun n x => 0 ≤ x ∧ x ≤ l.length ∧ (x = 0 → n = 0) ∧ 0 ≤ n ∧ n < l.length ∧ (0 < x → n < x ∧ gt l n ≤ at_ ∧ ∀ k, n < k → k < x → at_ < gt l k), fun _ x => (l.length - x).toNat, ⟨by omega, by omega, fun _ => rfl, by omega, by omega, fun h => by omega⟩, ?_⟩
  rintro n x ⟨h0, h1, h2, h3, h4, h5⟩
  dsimp only
  refine ⟨fun t => ⟨h0, t, by omega, ?_, by omega⟩, fun t => ?_⟩
  · by_cases u : gt l x ≤ at_
    · rw [iteP_pos u]; exact ⟨by omega, by omega, by omega, by omega, t, fun _ => ⟨by omega, u, fun k a b => by omega⟩⟩
    · rw [iteP_neg u]
      have hx : 0 < x := by
        rcases (show x = 0 ∨ 0 < x by omega) with c | c
        · rw [c, o2] at u; omega
        · exact c
      obtain ⟨p1, p2, p3⟩ := h5 hx
      exact ⟨by omega, by omega, by omega, h3, h4, fun _ => ⟨by omega, p2, fun k a b => by
        by_cases e : k = x
        · rw [e]; omega
        · exact p3 k a (by omega)⟩⟩
  · obtain ⟨p1, p2, p3⟩ := h5 (by omega)
    rw [lineAt_eq (n := n + 1) (by omega) (by omega) (fun k a b => by
      by_cases e : k = n
      · rw [e]; exact p2
      · have := starts_lt o3 (i := k) (j := n) a (by omega) h4; omega) fun h => p3 _ (by omega) (by omega)]
    exact ⟨by omega, rfl⟩

theorem law_LinesLines_hC : Cons Try.prog [(f_lines_Line, lines_Line_ct), (f_ref_LinesLine, ref_LinesLine_ct)] := ⟨lines_Line_con, ref_LinesLine_con, trivial⟩
theorem law_LinesLines_con : Con Try.prog f_law_LinesLines law_LinesLines_ct := law_LinesLines_vc law_LinesLines_hC fun l at_ h => ⟨h.1.1, h.1.1, by simp⟩

end Go.Proofs.Ytcgggoaefceokaa
