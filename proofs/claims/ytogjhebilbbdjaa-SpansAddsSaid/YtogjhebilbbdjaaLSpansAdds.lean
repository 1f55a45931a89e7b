/- The contracts of the functions that the law reaches, and that of the law. Conditions: none. -/
import Derived.Test.YtogjhebilbbdjaaWSpansAdds
import Derived.Test.YtogjhebilbbdjaaInsG
set_option linter.unusedVariables false
set_option linter.unusedSimpArgs false
set_option maxRecDepth 100000
namespace Go.Proofs.Ytogjhebilbbdjaa
open Go.Vc Go.Fu

theorem spans_May_hC : Cons Try.prog [] := trivial
theorem spans_May_con : Con Try.prog f_spans_May spans_May_ct := spans_May_vc spans_May_hC fun size l hl => by
  simp only [inI_iff, true_and, and_true, ne_eq, Int.reduceEq, not_false_eq_true, Int.toNat_zero, fitL, spansOk, false_bo, true_bo] at *
  refine ⟨fun h => by omega, fun h => ⟨fun last x => 0 ≤ x ∧ x ≤ l.length ∧ (spansOkFrom size (-1) l ↔ spansOkFrom size last (l.drop x.toNat)), fun _ x => (l.length - x).toNat, ⟨by omega, by omega, by simp⟩, fun last x ⟨h0, h1, h2⟩ => ?_⟩⟩
  dsimp only
  refine ⟨fun q => ?_, fun q => ?_⟩
  · rw [drop_gt h0 q] at h2
    simp only [spansOkFrom] at h2
    refine ⟨h0, q, fun r => ?_, fun r => ⟨by omega, ⟨by omega, by omega, ?_⟩, by omega⟩⟩
    · rw [h2]; omega
    · rw [h2]
      refine ⟨fun z => z.2.2.2, fun z => ⟨by omega, by omega, by omega, z⟩⟩
  · rw [List.drop_of_length_le (by omega)] at h2
    simp only [spansOkFrom, iff_true] at h2
    exact ⟨by omega, by omega, by omega, h2⟩

theorem spans_fault_hC : Cons Try.prog [(f_spans_May, spans_May_ct)] := ⟨spans_May_con, trivial⟩
theorem spans_fault_con : Con Try.prog f_spans_fault spans_fault_ct := spans_fault_vc spans_fault_hC fun size l s hl => by
  simp only [inI_iff, true_and, and_true, ne_eq, Int.reduceEq, not_false_eq_true, Int.toNat_zero, bo_true, spansFault] at *
  refine ⟨hl, fun c => by rw [if_pos c], fun c => ⟨fun d => by rw [if_neg c, if_pos (by omega)], fun d => by rw [if_neg c, if_neg (by omega)]⟩⟩

theorem spans_Joined_hC : Cons Try.prog [] := trivial
theorem spans_Joined_con : Con Try.prog f_spans_Joined spans_Joined_ct := spans_Joined_vc spans_Joined_hC fun l ha => by
  have hl : l.length ≤ 100001 := ha.1
  refine ⟨fun x out => 0 ≤ x ∧ x ≤ l.length ∧ Jn l x out, fun x _ => (l.length - x).toNat, ⟨by omega, by omega, .init l⟩, ?_⟩
  rintro x out ⟨x0, x1, h⟩
  have ol := h.len
  dsimp only
  refine ⟨fun t => ⟨x0, t, fun e => ⟨by unfold inI64; omega, ⟨by omega, by omega, h.skip x0 t e⟩, by omega⟩, fun e => ⟨fun _ => by unfold inI64; omega, fun _ => by omega, fun _ => by omega, fun c => ?_, fun c => ?_⟩⟩, fun t => h.fin t⟩
  · have c0 := c.1
    exact ⟨by unfold inI64; omega, by unfold inI64; omega, by omega, by omega, by omega, by omega, by unfold inI64; omega, ⟨by omega, by omega, h.more ha x0 t (by omega) c.2⟩, by omega⟩
  · exact ⟨by omega, by unfold inI64; omega, ⟨by omega, by omega, h.next ha x0 t e fun q => c ⟨by omega, q.2⟩⟩, by omega⟩
theorem spans_With_con : Con Try.prog f_spans_With spans_With_ct := with_con id spans_Joined_con

theorem spans_Add_hC : Cons Try.prog [(f_spans_fault, spans_fault_ct), (f_spans_With, spans_With_ct)] := ⟨spans_fault_con, spans_With_con, trivial⟩
theorem spans_Add_con : Con Try.prog f_spans_Add spans_Add_ct := spans_Add_vc spans_Add_hC fun size l s hl => by
  simp only [inI_iff, true_and, and_true, ne_eq, Int.reduceEq, not_false_eq_true, Int.toNat_zero, prod_eta] at *
  refine ⟨hl, fun c => by unfold spansAdd; rw [if_pos c]; exact ⟨rfl, rfl⟩, fun c => ?_⟩
  have q : spansFault size l s = 0 := Classical.byContradiction c
  obtain ⟨k1, k2⟩ := spansFault_ok q
  have e : spansAdd size l s = spansFull (withSp l s) := by unfold spansAdd; rw [if_neg (by rw [q]; simp)]
  rw [e]
  refine ⟨⟨k1, k2⟩, fun d => by unfold spansFull; rw [if_pos (by omega)]; exact ⟨rfl, rfl⟩, fun d => by unfold spansFull; rw [if_neg (by omega)]; exact ⟨rfl, rfl⟩⟩

theorem ref_SpansMay_hC : Cons Try.prog [] := trivial
theorem ref_SpansMay_con : Con Try.prog f_ref_SpansMay ref_SpansMay_ct := ref_SpansMay_vc ref_SpansMay_hC fun size l hl => by
  simp only [inI_iff, true_and, and_true, ne_eq, Int.reduceEq, not_false_eq_true, Int.toNat_zero, fitL, spansOk, false_bo, true_bo] at *
  refine ⟨fun h => by omega, fun h => ⟨fun x => 0 ≤ x ∧ x ≤ l.length ∧ (0 < x → 0 ≤ (gt l (x - 1)).2) ∧ (spansOkFrom size (-1) l ↔ spansOkFrom size (if x = 0 then -1 else (gt l (x - 1)).2) (l.drop x.toNat)), fun x => (l.length - x).toNat, ⟨by omega, by omega, by omega, by simp⟩, fun x ⟨h0, h1, h3, h2⟩ => ?_⟩⟩
  dsimp only
  refine ⟨fun q => ?_, fun q => ?_⟩
  · rw [drop_gt h0 q] at h2
    simp only [spansOkFrom] at h2
    refine ⟨h0, q, fun _ => by omega, fun _ => by omega, fun _ => by omega, fun r => ?_, fun r => ⟨by omega, ⟨by omega, by omega, ?_, ?_⟩, by omega⟩⟩
    · rw [h2]
      intro z
      have z1 := z.2.2.2.1
      have z2 := z.2.2.2.2.1
      have z3 := z.2.2.2.2.2.1
      split at z1 <;> omega
    · intro _
      rw [show x + 1 - 1 = x by omega]
      omega
    · rw [h2, if_neg (show ¬ x + 1 = 0 by omega), show x + 1 - 1 = x by omega]
      refine ⟨fun z => z.2.2.2, fun z => ⟨?_, by omega, by omega, z⟩⟩
      split <;> omega
  · rw [List.drop_of_length_le (by omega)] at h2
    simp only [spansOkFrom, iff_true] at h2
    exact ⟨by omega, by omega, by omega, h2⟩

theorem ref_spansFault_hC : Cons Try.prog [(f_ref_SpansMay, ref_SpansMay_ct)] := ⟨ref_SpansMay_con, trivial⟩
theorem ref_spansFault_con : Con Try.prog f_ref_spansFault ref_spansFault_ct := ref_spansFault_vc ref_spansFault_hC fun size l s hl => by
  simp only [inI_iff, true_and, and_true, ne_eq, Int.reduceEq, not_false_eq_true, Int.toNat_zero, bo_true, spansFault] at *
  refine ⟨hl, fun c => by rw [if_pos c], fun c => ⟨fun d => by rw [if_neg c, if_pos (by omega)], fun d => by rw [if_neg c, if_neg (by omega)]⟩⟩

theorem ref_inSet_hC : Cons Try.prog [] := trivial
theorem ref_inSet_con : Con Try.prog f_ref_inSet ref_inSet_ct := ref_inSet_vc ref_inSet_hC fun size l ok => by
  have ok' := ok
  obtain ⟨h1, h2, h3, h4⟩ := ok'
  simp only [inI_iff, true_and, and_true, ne_eq, Int.reduceEq, not_false_eq_true, Int.toNat_zero, prod_eta] at *
  refine ⟨h1, by omega, fun x out => 0 ≤ x ∧ x ≤ l.length ∧ out.length = size ∧ ∀ j : Int, 0 ≤ j → j < size → (gt out j = true ↔ inSp (l.take x.toNat) j), fun x _ => (l.length - x).toNat, ⟨by omega, by omega, by simp; omega, fun j a b => ?_⟩, ?_⟩
  · rw [gt_rep a (by omega)]; simp [inSp_nil]
  rintro x out ⟨g0, g1, g2, g3⟩
  dsimp only
  refine ⟨fun t => ?_, fun t => ?_⟩
  · have m := sep_mem h4 _ (gt_mem g0 t)
    refine ⟨g0, t, fun i o1 => (gt l x).1 ≤ i ∧ i ≤ (gt l x).2 ∧ o1.length = size ∧ ∀ j : Int, 0 ≤ j → j < size → (gt o1 j = true ↔ inSp (l.take x.toNat) j ∨ ((gt l x).1 ≤ j ∧ j < i)), fun i _ => ((gt l x).2 - i).toNat, ⟨by omega, by omega, g2, fun j a b => by rw [g3 j a b]; constructor; exact .inl; rintro (c | c); exact c; omega⟩, ?_⟩
    rintro i o1 ⟨k0, k1, k2, k3⟩
    dsimp only
    refine ⟨fun u => ⟨by omega, by omega, by omega, ⟨by omega, by omega, by simp; omega, fun j a b => ?_⟩, by omega⟩, fun u => ⟨by omega, ⟨by omega, by omega, k2, fun j a b => ?_⟩, by omega⟩⟩
    · by_cases e : j = i
      · subst e; rw [gt_set_eq a (by omega)]
        exact ⟨fun _ => .inr (by omega), fun _ => rfl⟩
      · rw [gt_set_ne (by omega) a (fun z => e z.symm), k3 j a b]
        constructor
        · rintro (c | c)
          · exact .inl c
          · exact .inr (by omega)
        · rintro (c | c)
          · exact .inl c
          · exact .inr (by omega)
    · rw [k3 j a b, take_gt g0 t, inSp_app, inSp_one]
      constructor
      · rintro (c | c)
        · exact .inl c
        · exact .inr (by omega)
      · rintro (c | c)
        · exact .inl c
        · exact .inr (by omega)
  · refine ext_gt (by simp [maskOf]; omega) fun j a b => ?_
    rw [Bool.eq_iff_iff, g3 j a (by omega), mask_gt a (by omega), bo_true, List.take_of_length_le (by omega)]

theorem ref_setOf_hC : Cons Try.prog [] := trivial
theorem ref_setOf_con : Con Try.prog f_ref_setOf ref_setOf_ct := ref_setOf_vc ref_setOf_hC fun m hm => by
  have hm' : m.length ≤ 100000 := hm
  simp only [inI_iff, true_and, and_true, ne_eq, Int.reduceEq, not_false_eq_true, Int.toNat_zero, Classical.not_not] at *
  refine ⟨fun x out => 0 ≤ x ∧ x ≤ m.length ∧ out.length ≤ x ∧ isCanon (fun j => 0 ≤ j ∧ j < x ∧ gt m j = true) out, fun x _ => (m.length - x).toNat, ⟨by omega, by omega, by simp, trivial, fun i => by simp [inSp_nil]; omega⟩, ?_⟩
  rintro x out ⟨h0, h1, h2, h3⟩
  dsimp only
  refine ⟨fun t => ⟨h0, t, fun c => ⟨by omega, ⟨by omega, by omega, by omega, canon_skip h3 c⟩, by omega⟩, fun c => ⟨fun _ => by omega, fun _ => by omega, fun _ => by omega, fun d => ?_, fun d => ⟨by omega, by omega, by omega, ⟨by omega, by omega, by simp; omega, canon_new (P := fun j => gt m j = true) h0 (by omega) h3 c d⟩, by omega⟩⟩⟩, fun t => ?_⟩
  · obtain ⟨hn, hc⟩ := canon_long (P := fun j => gt m j = true) d.1 (by omega) h3 c d.2
    have := List.length_pos_iff.2 hn
    exact ⟨by omega, by omega, by omega, by omega, by omega, ⟨by omega, by omega, by simp; omega, hc⟩, by omega⟩
  · have e : setOf m = spansFull out := by
      unfold setOf
      rw [canon_eq (l := out) ⟨h3.1, fun i => by rw [h3.2 i, show x = m.length by omega]⟩]
    rw [e]
    refine ⟨fun d => by unfold spansFull; rw [if_pos (by omega)]; exact ⟨rfl, rfl⟩, fun d => by unfold spansFull; rw [if_neg (by omega)]; exact ⟨rfl, rfl⟩⟩

theorem ref_SpansSet_hC : Cons Try.prog [(f_ref_spansFault, ref_spansFault_ct), (f_ref_inSet, ref_inSet_ct), (f_ref_setOf, ref_setOf_ct)] := ⟨ref_spansFault_con, ref_inSet_con, ref_setOf_con, trivial⟩
theorem ref_SpansSet_con : Con Try.prog f_ref_SpansSet ref_SpansSet_ct := ref_SpansSet_vc ref_SpansSet_hC fun size l s add hl => by
  simp only [inI_iff, true_and, and_true, ne_eq, Int.reduceEq, not_false_eq_true, Int.toNat_zero, prod_eta] at *
  refine ⟨hl, fun c => by rw [spansSet_bad c]; exact ⟨rfl, rfl⟩, fun c => ?_⟩
  have q : spansFault size l s = 0 := Classical.byContradiction c
  obtain ⟨ok, b1, b2, b3⟩ := spansFault_all q
  have hsz := ok.2.1
  refine ⟨ok, fun i m => s.1 ≤ i ∧ i ≤ s.2 ∧ m.length = size ∧ ∀ j : Int, 0 ≤ j → j < size → gt m j = if s.1 ≤ j ∧ j < i then add else gt (maskOf size l) j, fun i _ => (s.2 - i).toNat, ⟨by omega, by omega, by rw [mask_len]; omega, fun j a b => by rw [if_neg (by omega)]⟩, ?_⟩
  rintro i m ⟨g0, g1, g2, g3⟩
  dsimp only
  refine ⟨fun t => ⟨by omega, by omega, by omega, ⟨by omega, by omega, by simp; omega, fun j a b => ?_⟩, by omega⟩, fun t => ?_⟩
  · by_cases e : j = i
    · subst e; rw [gt_set_eq a (by omega), if_pos (by omega)]
    · rw [gt_set_ne (by omega) a (fun z => e z.symm), g3 j a b]
      by_cases z : s.1 ≤ j ∧ j < i
      · rw [if_pos z, if_pos (by omega)]
      · rw [if_neg z, if_neg (by omega)]
  · have e : setOf m = spansSet size l s add := by
      rw [spansSet_ok q]
      unfold setOf
      congr 1
      cases add
      · rw [if_neg (by simp)]
        refine canon_congr fun j => ?_
        constructor
        · rintro ⟨a, b, c⟩
          rw [g3 j a (by omega)] at c
          by_cases z : s.1 ≤ j ∧ j < i
          · rw [if_pos z] at c; cases c
          · rw [if_neg z, mask_gt a (by omega), bo_true] at c
            exact ⟨c, by omega⟩
        · rintro ⟨c, z⟩
          have bd := sep_in ok.2.2.2 c
          refine ⟨by omega, by omega, ?_⟩
          rw [g3 j (by omega) (by omega), if_neg (by omega), mask_gt (by omega) (by omega), bo_true]; exact c
      · rw [if_pos rfl]
        refine canon_congr fun j => ?_
        constructor
        · rintro ⟨a, b, c⟩
          rw [g3 j a (by omega)] at c
          by_cases z : s.1 ≤ j ∧ j < i
          · exact .inr ⟨z.1, by omega⟩
          · rw [if_neg z, mask_gt a (by omega), bo_true] at c
            exact .inl c
        · intro c
          have bd : 0 ≤ j ∧ j < size := by
            rcases c with c | c
            · have := sep_in ok.2.2.2 c; omega
            · omega
          refine ⟨by omega, by omega, ?_⟩
          rw [g3 j (by omega) (by omega)]
          by_cases z : s.1 ≤ j ∧ j < i
          · rw [if_pos z]
          · rw [if_neg z, mask_gt (by omega) (by omega), bo_true]
            rcases c with c | c
            · exact c
            · exact absurd ⟨c.1, by omega⟩ z
    rw [← e]
    exact ⟨by simp only [maskPre]; omega, rfl, rfl⟩

theorem law_sameSpans_hC : Cons Try.prog [] := trivial
theorem law_sameSpans_con : Con Try.prog f_law_sameSpans law_sameSpans_ct := law_sameSpans_vc law_sameSpans_hC fun a b h => by
  simp only [inI_iff, true_and, and_true, ne_eq, Int.reduceEq, not_false_eq_true, Int.toNat_zero, false_bo, true_bo, fitL] at *
  refine ⟨fun q e => q (by rw [e]), fun q => ⟨fun i => 0 ≤ i ∧ i ≤ a.length ∧ ∀ j : Int, 0 ≤ j → j < i → gt a j = gt b j, fun i => (a.length - i).toNat, ⟨by omega, by omega, fun j h1 h2 => by omega⟩, fun i ⟨h0, h1, h2⟩ => ?_⟩⟩
  dsimp only
  refine ⟨fun r => ⟨h0, r, h0, by omega, fun t e => t (by rw [e]; exact ⟨rfl, rfl⟩), fun t => ⟨by omega, ⟨by omega, by omega, fun j j0 j1 => ?_⟩, by omega⟩⟩, fun r => ?_⟩
  · by_cases e : j = i
    · rw [e]; have := Classical.byContradiction t; exact Prod.ext this.1 this.2
    · exact h2 j j0 (by omega)
  · exact ext_gt (by omega) fun j j0 j1 => h2 j j0 (by omega)

theorem law_SpansAdds_hC : Cons Try.prog [(f_spans_Add, spans_Add_ct), (f_ref_SpansSet, ref_SpansSet_ct), (f_law_sameSpans, law_sameSpans_ct)] := ⟨spans_Add_con, ref_SpansSet_con, law_sameSpans_con, trivial⟩
theorem law_SpansAdds_con : Con Try.prog f_law_SpansAdds law_SpansAdds_ct := law_SpansAdds_vc law_SpansAdds_hC fun size l s h => by
  have e : spansSet size l (s.1, s.2) true = spansAdd size l (s.1, s.2) := by simp [spansSet]
  rw [e]
  exact ⟨h.2.1.1, h.2.1.1, ⟨spansAdd_len _ _ _, spansAdd_len _ _ _⟩, by simp⟩

end Go.Proofs.Ytogjhebilbbdjaa
