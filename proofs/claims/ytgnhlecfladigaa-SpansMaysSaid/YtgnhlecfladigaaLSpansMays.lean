/- The contracts of the functions that the law reaches, and that of the law. Conditions: none. -/
import Derived.Test.YtgnhlecfladigaaWSpansMays
set_option linter.unusedVariables false
set_option linter.unusedSimpArgs false
set_option maxRecDepth 100000
namespace Go.Proofs.Ytgnhlecfladigaa
open Go.Vc Go.Fu

theorem spans_May_hC : Cons Try.prog [] := trivial
theorem spans_May_con : Con Try.prog f_spans_May spans_May_ct := spans_May_vc spans_May_hC fun size l hl => by
  simp only [inI_iff, true_and, and_true, ne_eq, Int.reduceEq, not_false_eq_true, Int.toNat_zero, fitL, spansOk, false_bo, true_bo] at *
  refine ⟨fun h => by omega, fun h => ⟨fun last x => 0 ≤ x ∧ x ≤ l.length ∧ (spansOkFrom size (-1) l ↔ spansOkFrom size last (l.drop x.toNat)), fun _ x => (l.length - x).toNat, ⟨by omega, by omega, by simp⟩, fun last x ⟨h0, h1, h2⟩ => ?_⟩⟩
  dsimp only
  refine ⟨fun q => ?_, fun q => ?_⟩
  · rw [drop_gt h0 q] at h2
    simp only [spansOkFrom] at h2
    refine ⟨h0, q, fun r => ?_, fun r => ⟨by omega, ⟨by omega, by omega, ?_⟩, by omega⟩⟩
    · rw [h2]; omega
    · rw [h2]
      refine ⟨fun z => z.2.2.2, fun z => ⟨by omega, by omega, by omega, z⟩⟩
  · rw [List.drop_of_length_le (by omega)] at h2
    simp only [spansOkFrom, iff_true] at h2
    exact ⟨by omega, by omega, by omega, h2⟩

theorem ref_SpansMay_hC : Cons Try.prog [] := trivial
theorem ref_SpansMay_con : Con Try.prog f_ref_SpansMay ref_SpansMay_ct := ref_SpansMay_vc ref_SpansMay_hC fun size l hl => by
  simp only [inI_iff, true_and, and_true, ne_eq, Int.reduceEq, not_false_eq_true, Int.toNat_zero, fitL, spansOk, false_bo, true_bo] at *
  refine ⟨fun h => by omega, fun h => ⟨fun x => 0 ≤ x ∧ x ≤ l.length ∧ (0 < x → 0 ≤ (gt l (x - 1)).2) ∧ (spansOkFrom size (-1) l ↔ spansOkFrom size (if x = 0 then -1 else (gt l (x - 1)).2) (l.drop x.toNat)), fun x => (l.length - x).toNat, ⟨by omega, by omega, by omega, by simp⟩, fun x ⟨h0, h1, h3, h2⟩ => ?_⟩⟩
  dsimp only
  refine ⟨fun q => ?_, fun q => ?_⟩
  · rw [drop_gt h0 q] at h2
    simp only [spansOkFrom] at h2
    refine ⟨h0, q, fun _ => by omega, fun _ => by omega, fun _ => by omega, fun r => ?_, fun r => ⟨by omega, ⟨by omega, by omega, ?_, ?_⟩, by omega⟩⟩
    · rw [h2]
      intro z
      have z1 := z.2.2.2.1
      have z2 := z.2.2.2.2.1
      have z3 := z.2.2.2.2.2.1
      split at z1 <;> omega
    · intro _
      rw [show x + 1 - 1 = x by omega]
      omega
    · rw [h2, if_neg (show ¬ x + 1 = 0 by omega), show x + 1 - 1 = x by omega]
      refine ⟨fun z => z.2.2.2, fun z => ⟨?_, by omega, by omega, z⟩⟩
      split <;> omega
  · rw [List.drop_of_length_le (by omega)] at h2
    simp only [spansOkFrom, iff_true] at h2
    exact ⟨by omega, by omega, by omega, h2⟩

theorem law_SpansMays_hC : Cons Try.prog [(f_spans_May, spans_May_ct), (f_ref_SpansMay, ref_SpansMay_ct)] := ⟨spans_May_con, ref_SpansMay_con, trivial⟩
theorem law_SpansMays_con : Con Try.prog f_law_SpansMays law_SpansMays_ct := law_SpansMays_vc law_SpansMays_hC fun size l h => ⟨h.2.1, h.2.1, by simp⟩

end Go.Proofs.Ytgnhlecfladigaa
