/- The contracts of the functions that the law reaches, and that of the law. Conditions: none. -/
import Derived.Test.YtmknkkafindicaaWSpansTakes
set_option linter.unusedVariables false
set_option linter.unusedSimpArgs false
set_option maxRecDepth 100000
namespace Go.Proofs.Ytmknkkafindicaa
open Go.Vc Go.Fu

theorem spans_May_hC : Cons Try.prog [] := trivial
theorem spans_May_con : Con Try.prog f_spans_May spans_May_ct := spans_May_vc spans_May_hC fun size l hl => by
  simp only [inI_iff, true_and, and_true, ne_eq, Int.reduceEq, not_false_eq_true, Int.toNat_zero, fitL, spansOk, false_bo, true_bo] at *
  refine ⟨fun h => by omega, fun h => ⟨fun last x => 0 ≤ x ∧ x ≤ l.length ∧ (spansOkFrom size (-1) l ↔ spansOkFrom size last (l.drop x.toNat)), fun _ x => (l.length - x).toNat, ⟨by omega, by omega, by simp⟩, fun last x ⟨h0, h1, h2⟩ => ?_⟩⟩
  dsimp only
  refine ⟨fun q => ?_, fun q => ?_⟩
  · rw [drop_gt h0 q] at h2
    simp only [spansOkFrom] at h2
    refine ⟨h0, q, fun r => ?_, fun r => ⟨by omega, ⟨by omega, by omega, ?_⟩, by omega⟩⟩
    · rw [h2]; omega
    · rw [h2]
      refine ⟨fun z => z.2.2.2, fun z => ⟨by omega, by omega, by omega, z⟩⟩
  · rw [List.drop_of_length_le (by omega)] at h2
    simp only [spansOkFrom, iff_true] at h2
    exact ⟨by omega, by omega, by omega, h2⟩

theorem slices_Clone___api_Span_api_Span__hC : Cons Try.prog [] := trivial
theorem slices_Clone___api_Span_api_Span__con : Con Try.prog f_slices_Clone___api_Span_api_Span_ slices_Clone___api_Span_api_Span__ct := slices_Clone___api_Span_api_Span__vc slices_Clone___api_Span_api_Span__hC fun s hs nl hn => by
  refine ⟨fun c => ?_, fun c => ⟨by simp only [fitM] at hs; omega, rfl⟩⟩
  have := hn c
  exact (List.length_eq_zero_iff.1 (by omega)).symm

theorem spans_Without_hC : Cons Try.prog [(f_slices_Clone___api_Span_api_Span_, slices_Clone___api_Span_api_Span__ct)] := ⟨slices_Clone___api_Span_api_Span__con, trivial⟩
theorem spans_Without_con : Con Try.prog f_spans_Without spans_Without_ct := spans_Without_vc spans_Without_hC fun l s ⟨⟨hl, hp⟩, hs⟩ => by
  simp only [inI_iff, true_and, and_true, ne_eq, Int.reduceEq, not_false_eq_true, Int.toNat_zero, prod_eta, Classical.not_not] at *
  refine ⟨fun x out => 0 ≤ x ∧ x ≤ l.length ∧ out = withoutRaw (l.take x.toNat) s, fun x _ => (l.length - x).toNat, ⟨by omega, by omega, by simp [withoutRaw]⟩, ?_⟩
  rintro x out ⟨h0, h1, h2⟩
  dsimp only
  have ol : out.length = 2 * x.toNat := by rw [h2, raw_len, List.length_take]; omega
  refine ⟨fun t => ⟨h0, t, by omega, by omega, ⟨by omega, by omega, by rw [raw_succ h0 t, h2]⟩, by omega⟩, fun t => ⟨fun e => ⟨by simp only [fitM]; omega, canon_self e hp⟩, fun e => ?_⟩⟩
  have ho : out = withoutRaw l s := by rw [h2, List.take_of_length_le (by omega)]
  have hlt : s.1 < s.2 := by obtain ⟨_, h, _⟩ := hs; omega
  have res : notBare out = without l s := by rw [ho]; exact canon_raw hlt hp
  refine ⟨fun x => 0 ≤ x ∧ x ≤ out.length ∧ ∀ j : Int, 0 ≤ j → j < x → (gt out j).1 < (gt out j).2, fun x => (out.length - x).toNat, ⟨by omega, by omega, fun j a b => by omega⟩, ?_⟩
  rintro x ⟨g0, g1, g2⟩
  dsimp only
  refine ⟨fun u => ⟨g0, u, fun v => ⟨fun c => by omega, fun _ => ⟨by omega, fun i j s' => thin out s' i j, fun _ j _ => (out.length - j).toNat, thin_start g0 u g2 (by omega), ?_⟩⟩, fun v => ⟨by omega, ⟨by omega, by omega, fun j a b => ?_⟩, by omega⟩⟩, fun u => ⟨fun _ => ?_, fun c => by simp at c⟩⟩
  · rintro i j s' h
    have h' := h
    obtain ⟨k1, k2, k3, k4, k5, k6⟩ := h'
    dsimp only
    refine ⟨fun w => ⟨by omega, w, fun b => ⟨k1, by omega, by omega, by omega, thin_keep h (by omega) (by omega), by omega⟩, fun b => ⟨by omega, thin_drop h (by omega) (by omega), by omega⟩⟩, fun w => ⟨k1, by omega, by omega, by omega, k1, by simp only [List.length_append, List.length_take, List.length_replicate, List.length_drop]; omega, ?_⟩⟩
    rw [← res, ← thin_end h (by omega), Int.sub_zero, List.append_assoc, List.take_append_of_le_length (by simp; omega), List.take_of_length_le (by simp; omega)]
  · by_cases e : j = x
    · subst e; omega
    · exact g2 j a (by omega)
  · rw [← res, notBare_all]
    intro j a b
    exact g2 j a (by omega)
theorem spans_Without_conv : Con Try.prog f_spans_Without spans_Without_ctv := Con.frozen spans_Without_con

theorem spans_Take_hC : Cons Try.prog [(f_spans_May, spans_May_ct), (f_spans_Without, spans_Without_ctv)] := ⟨spans_May_con, spans_Without_conv, trivial⟩
theorem spans_Take_con : Con Try.prog f_spans_Take spans_Take_ct := spans_Take_vc spans_Take_hC fun size l many hl => by
  have hl' : l.length ≤ 140737488351232 := hl
  simp only [inI_iff, true_and, and_true, ne_eq, Int.reduceEq, not_false_eq_true, Int.toNat_zero, prod_eta, bo_true, Classical.not_not] at *
  refine ⟨hl, fun c => ?_, fun ok => ⟨fun c => ?_, fun c => ⟨fun d => ?_, fun d => ?_⟩⟩⟩
  · unfold spansTake; rw [if_pos c]; exact ⟨rfl, rfl, rfl⟩
  · unfold spansTake; rw [if_neg (by simpa using ok), if_pos c]; exact ⟨rfl, rfl, rfl⟩
  · unfold spansTake; rw [if_neg (by simpa using ok), if_neg c, if_pos (List.length_eq_zero_iff.1 (by omega))]; exact ⟨rfl, rfl, rfl⟩
  · have hn : ¬ l = [] := fun e => d (by rw [e]; rfl)
    have pre := spansOk_pre ok
    have m := sep_mem pre.2 _ (gt_mem (l := l) (i := 0) (by omega) (by omega))
    have e : spansTake size l many = (taken l many, without l (taken l many), 0) := by unfold spansTake; rw [if_neg (by simpa using ok), if_neg c, if_neg hn]
    rw [e]
    exact ⟨by omega, by omega, by omega, by omega, ⟨pre, by simp only; omega, by simp only; omega, by simp only; omega⟩, rfl, rfl, rfl⟩

theorem ref_SpansMay_hC : Cons Try.prog [] := trivial
theorem ref_SpansMay_con : Con Try.prog f_ref_SpansMay ref_SpansMay_ct := ref_SpansMay_vc ref_SpansMay_hC fun size l hl => by
  simp only [inI_iff, true_and, and_true, ne_eq, Int.reduceEq, not_false_eq_true, Int.toNat_zero, fitL, spansOk, false_bo, true_bo] at *
  refine ⟨fun h => by omega, fun h => ⟨fun x => 0 ≤ x ∧ x ≤ l.length ∧ (0 < x → 0 ≤ (gt l (x - 1)).2) ∧ (spansOkFrom size (-1) l ↔ spansOkFrom size (if x = 0 then -1 else (gt l (x - 1)).2) (l.drop x.toNat)), fun x => (l.length - x).toNat, ⟨by omega, by omega, by omega, by simp⟩, fun x ⟨h0, h1, h3, h2⟩ => ?_⟩⟩
  dsimp only
  refine ⟨fun q => ?_, fun q => ?_⟩
  · rw [drop_gt h0 q] at h2
    simp only [spansOkFrom] at h2
    refine ⟨h0, q, fun _ => by omega, fun _ => by omega, fun _ => by omega, fun r => ?_, fun r => ⟨by omega, ⟨by omega, by omega, ?_, ?_⟩, by omega⟩⟩
    · rw [h2]
      intro z
      have z1 := z.2.2.2.1
      have z2 := z.2.2.2.2.1
      have z3 := z.2.2.2.2.2.1
      split at z1 <;> omega
    · intro _
      rw [show x + 1 - 1 = x by omega]
      omega
    · rw [h2, if_neg (show ¬ x + 1 = 0 by omega), show x + 1 - 1 = x by omega]
      refine ⟨fun z => z.2.2.2, fun z => ⟨?_, by omega, by omega, z⟩⟩
      split <;> omega
  · rw [List.drop_of_length_le (by omega)] at h2
    simp only [spansOkFrom, iff_true] at h2
    exact ⟨by omega, by omega, by omega, h2⟩

theorem ref_inSet_hC : Cons Try.prog [] := trivial
theorem ref_inSet_con : Con Try.prog f_ref_inSet ref_inSet_ct := ref_inSet_vc ref_inSet_hC fun size l ok => by
  have ok' := ok
  obtain ⟨h1, h2, h3, h4⟩ := ok'
  simp only [inI_iff, true_and, and_true, ne_eq, Int.reduceEq, not_false_eq_true, Int.toNat_zero, prod_eta] at *
  refine ⟨h1, by omega, fun x out => 0 ≤ x ∧ x ≤ l.length ∧ out.length = size ∧ ∀ j : Int, 0 ≤ j → j < size → (gt out j = true ↔ inSp (l.take x.toNat) j), fun x _ => (l.length - x).toNat, ⟨by omega, by omega, by simp; omega, fun j a b => ?_⟩, ?_⟩
  · rw [gt_rep a (by omega)]; simp [inSp_nil]
  rintro x out ⟨g0, g1, g2, g3⟩
  dsimp only
  refine ⟨fun t => ?_, fun t => ?_⟩
  · have m := sep_mem h4 _ (gt_mem g0 t)
    refine ⟨g0, t, fun i o1 => (gt l x).1 ≤ i ∧ i ≤ (gt l x).2 ∧ o1.length = size ∧ ∀ j : Int, 0 ≤ j → j < size → (gt o1 j = true ↔ inSp (l.take x.toNat) j ∨ ((gt l x).1 ≤ j ∧ j < i)), fun i _ => ((gt l x).2 - i).toNat, ⟨by omega, by omega, g2, fun j a b => by rw [g3 j a b]; constructor; exact .inl; rintro (c | c); exact c; omega⟩, ?_⟩
    rintro i o1 ⟨k0, k1, k2, k3⟩
    dsimp only
    refine ⟨fun u => ⟨by omega, by omega, by omega, ⟨by omega, by omega, by simp; omega, fun j a b => ?_⟩, by omega⟩, fun u => ⟨by omega, ⟨by omega, by omega, k2, fun j a b => ?_⟩, by omega⟩⟩
    · by_cases e : j = i
      · subst e; rw [gt_set_eq a (by omega)]
        exact ⟨fun _ => .inr (by omega), fun _ => rfl⟩
      · rw [gt_set_ne (by omega) a (fun z => e z.symm), k3 j a b]
        constructor
        · rintro (c | c)
          · exact .inl c
          · exact .inr (by omega)
        · rintro (c | c)
          · exact .inl c
          · exact .inr (by omega)
    · rw [k3 j a b, take_gt g0 t, inSp_app, inSp_one]
      constructor
      · rintro (c | c)
        · exact .inl c
        · exact .inr (by omega)
      · rintro (c | c)
        · exact .inl c
        · exact .inr (by omega)
  · refine ext_gt (by simp [maskOf]; omega) fun j a b => ?_
    rw [Bool.eq_iff_iff, g3 j a (by omega), mask_gt a (by omega), bo_true, List.take_of_length_le (by omega)]

theorem ref_setOf_hC : Cons Try.prog [] := trivial
theorem ref_setOf_con : Con Try.prog f_ref_setOf ref_setOf_ct := ref_setOf_vc ref_setOf_hC fun m hm => by
  have hm' : m.length ≤ 100000 := hm
  simp only [inI_iff, true_and, and_true, ne_eq, Int.reduceEq, not_false_eq_true, Int.toNat_zero, Classical.not_not] at *
  refine ⟨fun x out => 0 ≤ x ∧ x ≤ m.length ∧ out.length ≤ x ∧ isCanon (fun j => 0 ≤ j ∧ j < x ∧ gt m j = true) out, fun x _ => (m.length - x).toNat, ⟨by omega, by omega, by simp, trivial, fun i => by simp [inSp_nil]; omega⟩, ?_⟩
  rintro x out ⟨h0, h1, h2, h3⟩
  dsimp only
  refine ⟨fun t => ⟨h0, t, fun c => ⟨by omega, ⟨by omega, by omega, by omega, canon_skip h3 c⟩, by omega⟩, fun c => ⟨fun _ => by omega, fun _ => by omega, fun _ => by omega, fun d => ?_, fun d => ⟨by omega, by omega, by omega, ⟨by omega, by omega, by simp; omega, canon_new (P := fun j => gt m j = true) h0 (by omega) h3 c d⟩, by omega⟩⟩⟩, fun t => ?_⟩
  · obtain ⟨hn, hc⟩ := canon_long (P := fun j => gt m j = true) d.1 (by omega) h3 c d.2
    have := List.length_pos_iff.2 hn
    exact ⟨by omega, by omega, by omega, by omega, by omega, ⟨by omega, by omega, by simp; omega, hc⟩, by omega⟩
  · have e : setOf m = spansFull out := by
      unfold setOf
      rw [canon_eq (l := out) ⟨h3.1, fun i => by rw [h3.2 i, show x = m.length by omega]⟩]
    rw [e]
    refine ⟨fun d => by unfold spansFull; rw [if_pos (by omega)]; exact ⟨rfl, rfl⟩, fun d => by unfold spansFull; rw [if_neg (by omega)]; exact ⟨rfl, rfl⟩⟩

theorem ref_SpansTake_hC : Cons Try.prog [(f_ref_SpansMay, ref_SpansMay_ct), (f_ref_inSet, ref_inSet_ct), (f_ref_setOf, ref_setOf_ct)] := ⟨ref_SpansMay_con, ref_inSet_con, ref_setOf_con, trivial⟩
theorem ref_SpansTake_con : Con Try.prog f_ref_SpansTake ref_SpansTake_ct := ref_SpansTake_vc ref_SpansTake_hC fun size l many ⟨hl, hmany⟩ => by
  have hl' : l.length ≤ 140737488351232 := hl
  simp only [inI_iff, true_and, and_true, ne_eq, Int.reduceEq, not_false_eq_true, Int.toNat_zero, prod_eta, bo_true, Classical.not_not] at *
  refine ⟨hl, fun c => ?_, fun ok => ⟨fun c => ?_, fun c => ⟨fun d => ?_, fun d => ?_⟩⟩⟩
  · unfold spansTake; rw [if_pos c]; exact ⟨rfl, rfl, rfl⟩
  · unfold spansTake; rw [if_neg (by simpa using ok), if_pos c]; exact ⟨rfl, rfl, rfl⟩
  · unfold spansTake; rw [if_neg (by simpa using ok), if_neg c, if_pos (List.length_eq_zero_iff.1 (by omega))]; exact ⟨rfl, rfl, rfl⟩
  · have hn : ¬ l = [] := fun e => d (by rw [e]; rfl)
    have pre := spansOk_pre ok
    have hsz := ok.2.1
    have m := sep_mem ok.2.2.2 _ (gt_mem (l := l) (i := 0) (by omega) (by omega))
    have e : spansTake size l many = (taken l many, without l (taken l many), 0) := by unfold spansTake; rw [if_neg (by simpa using ok), if_neg c, if_neg hn]
    rw [e]
    refine ⟨ok, by omega, by omega, fun k hi ms => (gt l 0).1 ≤ hi ∧ hi ≤ (gt l 0).2 ∧ 0 ≤ k ∧ k + (hi - (gt l 0).1) = many ∧ ms.length = size ∧ ∀ j : Int, 0 ≤ j → j < size → (gt ms j = true ↔ inSp l j ∧ ¬ ((gt l 0).1 ≤ j ∧ j < hi)), fun k _ _ => k.toNat, ⟨by omega, by omega, by omega, by omega, by rw [mask_len]; omega, fun j a b => ?_⟩, ?_⟩
    · rw [mask_gt a b, bo_true]
      exact ⟨fun c => ⟨c, by omega⟩, fun c => c.1⟩
    rintro k hi ms ⟨g0, g1, g2, g3, g4, g5⟩
    dsimp only
    refine ⟨by omega, by omega, fun t => ⟨by omega, by omega, by omega, by omega, ⟨by omega, by omega, by omega, by omega, by simp; omega, fun j a b => ?_⟩, by omega⟩, fun t => ?_⟩
    · by_cases e : j = hi
      · subst e; rw [gt_set_eq a (by omega)]
        exact ⟨fun c => (by cases c), fun c => absurd ⟨g0, by omega⟩ c.2⟩
      · rw [gt_set_ne (by omega) a (fun z => e z.symm), g5 j a b]
        exact ⟨fun c => ⟨c.1, by omega⟩, fun c => ⟨c.1, by omega⟩⟩
    · have et : taken l many = ((gt l 0).1, hi) := by
        unfold taken
        refine Prod.ext rfl ?_
        simp only; omega
      have key : setOf ms = spansFull (without l ((gt l 0).1, hi)) := by
        unfold setOf without
        congr 1
        refine canon_congr fun j => ?_
        constructor
        · rintro ⟨a, b, c⟩
          exact (g5 j a (by omega)).1 c
        · intro c
          have bd := sep_in ok.2.2.2 c.1
          exact ⟨by omega, by omega, (g5 j (by omega) (by omega)).2 c⟩
      have ln := without_first ok.2.2.2 hn (show (gt l 0).1 ≤ hi by omega) g1
      have l40 := ok.2.2.1
      rw [et, key]
      unfold spansFull
      rw [if_neg (by omega)]
      exact ⟨by simp only [maskPre]; omega, by omega, by omega, rfl, rfl, rfl⟩

theorem law_sameSpans_hC : Cons Try.prog [] := trivial
theorem law_sameSpans_con : Con Try.prog f_law_sameSpans law_sameSpans_ct := law_sameSpans_vc law_sameSpans_hC fun a b h => by
  simp only [inI_iff, true_and, and_true, ne_eq, Int.reduceEq, not_false_eq_true, Int.toNat_zero, false_bo, true_bo, fitL] at *
  refine ⟨fun q e => q (by rw [e]), fun q => ⟨fun i => 0 ≤ i ∧ i ≤ a.length ∧ ∀ j : Int, 0 ≤ j → j < i → gt a j = gt b j, fun i => (a.length - i).toNat, ⟨by omega, by omega, fun j h1 h2 => by omega⟩, fun i ⟨h0, h1, h2⟩ => ?_⟩⟩
  dsimp only
  refine ⟨fun r => ⟨h0, r, h0, by omega, fun t e => t (by rw [e]; exact ⟨rfl, rfl⟩), fun t => ⟨by omega, ⟨by omega, by omega, fun j j0 j1 => ?_⟩, by omega⟩⟩, fun r => ?_⟩
  · by_cases e : j = i
    · rw [e]; have := Classical.byContradiction t; exact Prod.ext this.1 this.2
    · exact h2 j j0 (by omega)
  · exact ext_gt (by omega) fun j j0 j1 => h2 j j0 (by omega)

theorem law_SpansTakes_hC : Cons Try.prog [(f_spans_Take, spans_Take_ct), (f_ref_SpansTake, ref_SpansTake_ct), (f_law_sameSpans, law_sameSpans_ct)] := ⟨spans_Take_con, ref_SpansTake_con, law_sameSpans_con, trivial⟩
theorem law_SpansTakes_con : Con Try.prog f_law_SpansTakes law_SpansTakes_ct := law_SpansTakes_vc law_SpansTakes_hC fun size l many h => ⟨h.2.1.1, ⟨h.2.1.1, h.2.2⟩, fun _ => ⟨spansTake_len _ _ _, spansTake_len _ _ _⟩, by simp⟩

end Go.Proofs.Ytmknkkafindicaa
