/- The contracts of the functions that the law reaches, and that of the law. Conditions: none. -/
import Derived.Test.YtogjhebilbbdjaaWSpansShifts
import Derived.Test.YtogjhebilbbdjaaInsG
set_option linter.unusedVariables false
set_option linter.unusedSimpArgs false
set_option maxRecDepth 100000
namespace Go.Proofs.Ytogjhebilbbdjaa
open Go.Vc Go.Fu

theorem spans_May_hC : Cons Try.prog [] := trivial
theorem spans_May_con : Con Try.prog f_spans_May spans_May_ct := spans_May_vc spans_May_hC fun size l hl => by
  simp only [inI_iff, true_and, and_true, ne_eq, Int.reduceEq, not_false_eq_true, Int.toNat_zero, fitL, spansOk, false_bo, true_bo] at *
  refine ⟨fun h => by omega, fun h => ⟨fun last x => 0 ≤ x ∧ x ≤ l.length ∧ (spansOkFrom size (-1) l ↔ spansOkFrom size last (l.drop x.toNat)), fun _ x => (l.length - x).toNat, ⟨by omega, by omega, by simp⟩, fun last x ⟨h0, h1, h2⟩ => ?_⟩⟩
  dsimp only
  refine ⟨fun q => ?_, fun q => ?_⟩
  · rw [drop_gt h0 q] at h2
    simp only [spansOkFrom] at h2
    refine ⟨h0, q, fun r => ?_, fun r => ⟨by omega, ⟨by omega, by omega, ?_⟩, by omega⟩⟩
    · rw [h2]; omega
    · rw [h2]
      refine ⟨fun z => z.2.2.2, fun z => ⟨by omega, by omega, by omega, z⟩⟩
  · rw [List.drop_of_length_le (by omega)] at h2
    simp only [spansOkFrom, iff_true] at h2
    exact ⟨by omega, by omega, by omega, h2⟩

theorem edit_Check_hC : Cons Try.prog [] := trivial
theorem edit_Check_con : Con Try.prog f_edit_Check edit_Check_ct := edit_Check_vc edit_Check_hC fun size e ⟨h1, h2, h3, h4⟩ => (by
  simp only [inI_iff, fitS, editFault] at *
  refine ⟨fun h => by omega, fun h => ?_, fun h => ⟨by omega, by omega, fun g => ?_, fun g => ?_⟩⟩
  · rw [if_pos (by omega)]
  · rw [if_neg (by omega), if_pos (by omega)]
  · rw [if_neg (by omega), if_neg (by omega)])

theorem slices_Clone___api_Span_api_Span__hC : Cons Try.prog [] := trivial
theorem slices_Clone___api_Span_api_Span__con : Con Try.prog f_slices_Clone___api_Span_api_Span_ slices_Clone___api_Span_api_Span__ct := slices_Clone___api_Span_api_Span__vc slices_Clone___api_Span_api_Span__hC fun s hs nl hn => by
  refine ⟨fun c => ?_, fun c => ⟨by simp only [fitM] at hs; omega, rfl⟩⟩
  have := hn c
  exact (List.length_eq_zero_iff.1 (by omega)).symm

theorem spans_Without_hC : Cons Try.prog [(f_slices_Clone___api_Span_api_Span_, slices_Clone___api_Span_api_Span__ct)] := ⟨slices_Clone___api_Span_api_Span__con, trivial⟩
theorem spans_Without_con : Con Try.prog f_spans_Without spans_Without_ct := spans_Without_vc spans_Without_hC fun l s ⟨⟨hl, hp⟩, hs⟩ => by
  simp only [inI_iff, true_and, and_true, ne_eq, Int.reduceEq, not_false_eq_true, Int.toNat_zero, prod_eta, Classical.not_not] at *
  refine ⟨fun x out => 0 ≤ x ∧ x ≤ l.length ∧ out = withoutRaw (l.take x.toNat) s, fun x _ => (l.length - x).toNat, ⟨by omega, by omega, by simp [withoutRaw]⟩, ?_⟩
  rintro x out ⟨h0, h1, h2⟩
  dsimp only
  have ol : out.length = 2 * x.toNat := by rw [h2, raw_len, List.length_take]; omega
  refine ⟨fun t => ⟨h0, t, by omega, by omega, ⟨by omega, by omega, by rw [raw_succ h0 t, h2]⟩, by omega⟩, fun t => ⟨fun e => ⟨by simp only [fitM]; omega, canon_self e hp⟩, fun e => ?_⟩⟩
  have ho : out = withoutRaw l s := by rw [h2, List.take_of_length_le (by omega)]
  have hlt : s.1 < s.2 := by obtain ⟨_, h, _⟩ := hs; omega
  have res : notBare out = without l s := by rw [ho]; exact canon_raw hlt hp
  refine ⟨fun x => 0 ≤ x ∧ x ≤ out.length ∧ ∀ j : Int, 0 ≤ j → j < x → (gt out j).1 < (gt out j).2, fun x => (out.length - x).toNat, ⟨by omega, by omega, fun j a b => by omega⟩, ?_⟩
  rintro x ⟨g0, g1, g2⟩
  dsimp only
  refine ⟨fun u => ⟨g0, u, fun v => ⟨fun c => by omega, fun _ => ⟨by omega, fun i j s' => thin out s' i j, fun _ j _ => (out.length - j).toNat, thin_start g0 u g2 (by omega), ?_⟩⟩, fun v => ⟨by omega, ⟨by omega, by omega, fun j a b => ?_⟩, by omega⟩⟩, fun u => ⟨fun _ => ?_, fun c => by simp at c⟩⟩
  · rintro i j s' h
    have h' := h
    obtain ⟨k1, k2, k3, k4, k5, k6⟩ := h'
    dsimp only
    refine ⟨fun w => ⟨by omega, w, fun b => ⟨k1, by omega, by omega, by omega, thin_keep h (by omega) (by omega), by omega⟩, fun b => ⟨by omega, thin_drop h (by omega) (by omega), by omega⟩⟩, fun w => ⟨k1, by omega, by omega, by omega, k1, by simp only [List.length_append, List.length_take, List.length_replicate, List.length_drop]; omega, ?_⟩⟩
    rw [← res, ← thin_end h (by omega), Int.sub_zero, List.append_assoc, List.take_append_of_le_length (by simp; omega), List.take_of_length_le (by simp; omega)]
  · by_cases e : j = x
    · subst e; omega
    · exact g2 j a (by omega)
  · rw [← res, notBare_all]
    intro j a b
    exact g2 j a (by omega)
theorem spans_Without_conv : Con Try.prog f_spans_Without spans_Without_ctv := Con.frozen spans_Without_con

theorem spans_Joined_hC : Cons Try.prog [] := trivial
theorem spans_Joined_con : Con Try.prog f_spans_Joined spans_Joined_ct := spans_Joined_vc spans_Joined_hC fun l ha => by
  have hl : l.length ≤ 100001 := ha.1
  refine ⟨fun x out => 0 ≤ x ∧ x ≤ l.length ∧ Jn l x out, fun x _ => (l.length - x).toNat, ⟨by omega, by omega, .init l⟩, ?_⟩
  rintro x out ⟨x0, x1, h⟩
  have ol := h.len
  dsimp only
  refine ⟨fun t => ⟨x0, t, fun e => ⟨by unfold inI64; omega, ⟨by omega, by omega, h.skip x0 t e⟩, by omega⟩, fun e => ⟨fun _ => by unfold inI64; omega, fun _ => by omega, fun _ => by omega, fun c => ?_, fun c => ?_⟩⟩, fun t => h.fin t⟩
  · have c0 := c.1
    exact ⟨by unfold inI64; omega, by unfold inI64; omega, by omega, by omega, by omega, by omega, by unfold inI64; omega, ⟨by omega, by omega, h.more ha x0 t (by omega) c.2⟩, by omega⟩
  · exact ⟨by omega, by unfold inI64; omega, ⟨by omega, by omega, h.next ha x0 t e fun q => c ⟨by omega, q.2⟩⟩, by omega⟩
theorem spans_With_con : Con Try.prog f_spans_With spans_With_ct := with_con id spans_Joined_con

theorem spans_Shifted_hC : Cons Try.prog [(f_spans_Without, spans_Without_ctv), (f_spans_Joined, spans_Joined_ct), (f_spans_With, spans_With_ct)] := ⟨spans_Without_conv, spans_Joined_con, spans_With_con, trivial⟩
theorem spans_Shifted_con : Con Try.prog f_spans_Shifted spans_Shifted_ct := spans_Shifted_vc spans_Shifted_hC fun l e ⟨size, ok, f⟩ => by
  simp only [inI_iff, true_and, and_true, ne_eq, Int.reduceEq, not_false_eq_true, Int.toNat_zero, prod_eta] at *
  have m := editMay_iff.1 (show editMay size e from f)
  obtain ⟨u1, u2, u3⟩ := left_uncut ok f
  obtain ⟨k1, k2, k3, k4⟩ := shift_with ok f
  generalize hW : without l (e.1, e.1 + e.2.1) = W at *
  refine ⟨by omega, ⟨spansOk_pre ok, m.2.2.1, by show e.1 ≤ e.1 + e.2.1; omega, by show e.1 + e.2.1 ≤ 1000000; omega⟩, fun x out => 0 ≤ x ∧ x ≤ W.length ∧ out = shRaw e (W.take x.toNat), fun x _ => (W.length - x).toNat, ⟨by omega, by omega, by simp [shRaw]⟩, ?_⟩
  rintro x out ⟨h0, h1, h2⟩
  dsimp only
  have ol : out.length ≤ 2 * x.toNat := by
    have := shRaw_len e (W.take x.toNat)
    rw [h2]; simp only [List.length_take] at this; omega
  refine ⟨fun t => ?_, fun t => ?_⟩
  · have b := u1 _ (gt_mem h0 t)
    have hs := shRaw_succ (e := e) h0 t
    have b' := b
    obtain ⟨a1, a2, a3, a4, a5, a6, a7, a8⟩ := b'
    unfold shStep at hs
    refine ⟨h0, t, fun c => ?_, fun c => ?_⟩
    · rw [if_pos c] at hs
      refine ⟨by omega, fun _ => ⟨by omega, by omega, by omega, by simp only [List.length_append, List.length_singleton]; omega, by omega, ⟨by omega, by omega, ?_⟩, by omega⟩, fun q => absurd (Int.le_refl _) q⟩
      rw [hs, h2, List.append_assoc]; rfl
    · rw [if_neg c] at hs
      refine ⟨fun d => ?_, fun d => ?_⟩
      · rw [if_pos d] at hs
        exact ⟨by omega, by omega, by omega, by omega, by omega, ⟨by omega, by omega, by rw [hs, h2]⟩, by omega⟩
      · rw [if_neg d] at hs
        exact ⟨by omega, by omega, ⟨by omega, by omega, by rw [hs, h2]⟩, by omega⟩
  · rw [List.take_of_length_le (by omega)] at h2
    subst h2
    exact ⟨by omega, k1, ⟨k2, k3⟩, k4⟩

theorem spans_Shift_hC : Cons Try.prog [(f_spans_May, spans_May_ct), (f_edit_Check, edit_Check_ct), (f_spans_Shifted, spans_Shifted_ct)] := ⟨spans_May_con, edit_Check_con, spans_Shifted_con, trivial⟩
theorem spans_Shift_con : Con Try.prog f_spans_Shift spans_Shift_ct := spans_Shift_vc spans_Shift_hC fun size l e hl => by
  simp only [inI_iff, true_and, and_true, ne_eq, Int.reduceEq, not_false_eq_true, Int.toNat_zero, prod_eta, bo_true, Classical.not_not] at *
  refine ⟨hl.2.1, fun c => by rw [spansShift_a c]; exact ⟨rfl, rfl⟩, fun ok => ⟨⟨hl.1, hl.2.2⟩, fun c => by rw [spansShift_b ok c]; exact ⟨rfl, rfl⟩, fun c => ?_⟩⟩
  have f : editFault size e = 0 := c
  rw [spansShift_c ok f]
  exact ⟨⟨size, ok, f⟩, fun d => by unfold spansFull; rw [if_pos (by omega)]; exact ⟨rfl, rfl⟩, fun d => by unfold spansFull; rw [if_neg (by omega)]; exact ⟨rfl, rfl⟩⟩

theorem ref_SpansMay_hC : Cons Try.prog [] := trivial
theorem ref_SpansMay_con : Con Try.prog f_ref_SpansMay ref_SpansMay_ct := ref_SpansMay_vc ref_SpansMay_hC fun size l hl => by
  simp only [inI_iff, true_and, and_true, ne_eq, Int.reduceEq, not_false_eq_true, Int.toNat_zero, fitL, spansOk, false_bo, true_bo] at *
  refine ⟨fun h => by omega, fun h => ⟨fun x => 0 ≤ x ∧ x ≤ l.length ∧ (0 < x → 0 ≤ (gt l (x - 1)).2) ∧ (spansOkFrom size (-1) l ↔ spansOkFrom size (if x = 0 then -1 else (gt l (x - 1)).2) (l.drop x.toNat)), fun x => (l.length - x).toNat, ⟨by omega, by omega, by omega, by simp⟩, fun x ⟨h0, h1, h3, h2⟩ => ?_⟩⟩
  dsimp only
  refine ⟨fun q => ?_, fun q => ?_⟩
  · rw [drop_gt h0 q] at h2
    simp only [spansOkFrom] at h2
    refine ⟨h0, q, fun _ => by omega, fun _ => by omega, fun _ => by omega, fun r => ?_, fun r => ⟨by omega, ⟨by omega, by omega, ?_, ?_⟩, by omega⟩⟩
    · rw [h2]
      intro z
      have z1 := z.2.2.2.1
      have z2 := z.2.2.2.2.1
      have z3 := z.2.2.2.2.2.1
      split at z1 <;> omega
    · intro _
      rw [show x + 1 - 1 = x by omega]
      omega
    · rw [h2, if_neg (show ¬ x + 1 = 0 by omega), show x + 1 - 1 = x by omega]
      refine ⟨fun z => z.2.2.2, fun z => ⟨?_, by omega, by omega, z⟩⟩
      split <;> omega
  · rw [List.drop_of_length_le (by omega)] at h2
    simp only [spansOkFrom, iff_true] at h2
    exact ⟨by omega, by omega, by omega, h2⟩

theorem ref_EditFault_hC : Cons Try.prog [] := trivial
theorem ref_EditFault_con : Con Try.prog f_ref_EditFault ref_EditFault_ct := ref_EditFault_vc ref_EditFault_hC fun size e ⟨h1, h2, h3, h4⟩ => (by
  simp only [inI_iff, fitS, editFault] at *
  refine ⟨fun h => by omega, fun h => ?_, fun h => ⟨by omega, by omega, fun g => ?_, fun g => ?_⟩⟩
  · rw [if_pos (by omega)]
  · rw [if_neg (by omega), if_pos (by omega)]
  · rw [if_neg (by omega), if_neg (by omega)])

theorem ref_inSet_hC : Cons Try.prog [] := trivial
theorem ref_inSet_con : Con Try.prog f_ref_inSet ref_inSet_ct := ref_inSet_vc ref_inSet_hC fun size l ok => by
  have ok' := ok
  obtain ⟨h1, h2, h3, h4⟩ := ok'
  simp only [inI_iff, true_and, and_true, ne_eq, Int.reduceEq, not_false_eq_true, Int.toNat_zero, prod_eta] at *
  refine ⟨h1, by omega, fun x out => 0 ≤ x ∧ x ≤ l.length ∧ out.length = size ∧ ∀ j : Int, 0 ≤ j → j < size → (gt out j = true ↔ inSp (l.take x.toNat) j), fun x _ => (l.length - x).toNat, ⟨by omega, by omega, by simp; omega, fun j a b => ?_⟩, ?_⟩
  · rw [gt_rep a (by omega)]; simp [inSp_nil]
  rintro x out ⟨g0, g1, g2, g3⟩
  dsimp only
  refine ⟨fun t => ?_, fun t => ?_⟩
  · have m := sep_mem h4 _ (gt_mem g0 t)
    refine ⟨g0, t, fun i o1 => (gt l x).1 ≤ i ∧ i ≤ (gt l x).2 ∧ o1.length = size ∧ ∀ j : Int, 0 ≤ j → j < size → (gt o1 j = true ↔ inSp (l.take x.toNat) j ∨ ((gt l x).1 ≤ j ∧ j < i)), fun i _ => ((gt l x).2 - i).toNat, ⟨by omega, by omega, g2, fun j a b => by rw [g3 j a b]; constructor; exact .inl; rintro (c | c); exact c; omega⟩, ?_⟩
    rintro i o1 ⟨k0, k1, k2, k3⟩
    dsimp only
    refine ⟨fun u => ⟨by omega, by omega, by omega, ⟨by omega, by omega, by simp; omega, fun j a b => ?_⟩, by omega⟩, fun u => ⟨by omega, ⟨by omega, by omega, k2, fun j a b => ?_⟩, by omega⟩⟩
    · by_cases e : j = i
      · subst e; rw [gt_set_eq a (by omega)]
        exact ⟨fun _ => .inr (by omega), fun _ => rfl⟩
      · rw [gt_set_ne (by omega) a (fun z => e z.symm), k3 j a b]
        constructor
        · rintro (c | c)
          · exact .inl c
          · exact .inr (by omega)
        · rintro (c | c)
          · exact .inl c
          · exact .inr (by omega)
    · rw [k3 j a b, take_gt g0 t, inSp_app, inSp_one]
      constructor
      · rintro (c | c)
        · exact .inl c
        · exact .inr (by omega)
      · rintro (c | c)
        · exact .inl c
        · exact .inr (by omega)
  · refine ext_gt (by simp [maskOf]; omega) fun j a b => ?_
    rw [Bool.eq_iff_iff, g3 j a (by omega), mask_gt a (by omega), bo_true, List.take_of_length_le (by omega)]

theorem ref_editPlace_hC : Cons Try.prog [] := trivial
theorem ref_editPlace_con : Con Try.prog f_ref_editPlace ref_editPlace_ct := ref_editPlace_vc ref_editPlace_hC fun e at_ right h => by
  simp only [inI_iff, movedPre, fitS, moved] at *
  refine ⟨fun q => by rw [if_pos q], fun q => ⟨by omega, fun r => ⟨by omega, by omega, ?_⟩, fun r => ⟨fun t => ⟨by omega, ?_⟩, fun t => ?_⟩⟩⟩
  · rw [if_neg q, if_pos (by omega)]; omega
  · rw [if_neg q, if_neg (by omega), if_pos t]
  · rw [if_neg q, if_neg (by omega), if_neg t]

theorem ref_setOf_hC : Cons Try.prog [] := trivial
theorem ref_setOf_con : Con Try.prog f_ref_setOf ref_setOf_ct := ref_setOf_vc ref_setOf_hC fun m hm => by
  have hm' : m.length ≤ 100000 := hm
  simp only [inI_iff, true_and, and_true, ne_eq, Int.reduceEq, not_false_eq_true, Int.toNat_zero, Classical.not_not] at *
  refine ⟨fun x out => 0 ≤ x ∧ x ≤ m.length ∧ out.length ≤ x ∧ isCanon (fun j => 0 ≤ j ∧ j < x ∧ gt m j = true) out, fun x _ => (m.length - x).toNat, ⟨by omega, by omega, by simp, trivial, fun i => by simp [inSp_nil]; omega⟩, ?_⟩
  rintro x out ⟨h0, h1, h2, h3⟩
  dsimp only
  refine ⟨fun t => ⟨h0, t, fun c => ⟨by omega, ⟨by omega, by omega, by omega, canon_skip h3 c⟩, by omega⟩, fun c => ⟨fun _ => by omega, fun _ => by omega, fun _ => by omega, fun d => ?_, fun d => ⟨by omega, by omega, by omega, ⟨by omega, by omega, by simp; omega, canon_new (P := fun j => gt m j = true) h0 (by omega) h3 c d⟩, by omega⟩⟩⟩, fun t => ?_⟩
  · obtain ⟨hn, hc⟩ := canon_long (P := fun j => gt m j = true) d.1 (by omega) h3 c d.2
    have := List.length_pos_iff.2 hn
    exact ⟨by omega, by omega, by omega, by omega, by omega, ⟨by omega, by omega, by simp; omega, hc⟩, by omega⟩
  · have e : setOf m = spansFull out := by
      unfold setOf
      rw [canon_eq (l := out) ⟨h3.1, fun i => by rw [h3.2 i, show x = m.length by omega]⟩]
    rw [e]
    refine ⟨fun d => by unfold spansFull; rw [if_pos (by omega)]; exact ⟨rfl, rfl⟩, fun d => by unfold spansFull; rw [if_neg (by omega)]; exact ⟨rfl, rfl⟩⟩

theorem ref_SpansShift_hC : Cons Try.prog [(f_ref_SpansMay, ref_SpansMay_ct), (f_ref_EditFault, ref_EditFault_ct), (f_ref_inSet, ref_inSet_ct), (f_ref_editPlace, ref_editPlace_ct), (f_ref_setOf, ref_setOf_ct)] := ⟨ref_SpansMay_con, ref_EditFault_con, ref_inSet_con, ref_editPlace_con, ref_setOf_con, trivial⟩
theorem ref_SpansShift_con : Con Try.prog f_ref_SpansShift ref_SpansShift_ct := ref_SpansShift_vc ref_SpansShift_hC fun size l e hl => by
  simp only [inI_iff, true_and, and_true, ne_eq, Int.reduceEq, not_false_eq_true, Int.toNat_zero, prod_eta, bo_true, Classical.not_not] at *
  refine ⟨hl.2.1, fun c => by rw [spansShift_a c]; exact ⟨rfl, rfl⟩, fun ok => ⟨⟨hl.1, hl.2.2⟩, fun c => by rw [spansShift_b ok c]; exact ⟨rfl, rfl⟩, fun c => ?_⟩⟩
  have f : editFault size e = 0 := c
  rw [spansShift_c ok f]
  have m := editMay_iff.1 (show editMay size e from f)
  have ml : ((maskOf size l).length : Int) = size := by rw [mask_len]; omega
  have nn : ((size + (e.2.2.length : Int) - e.2.1).toNat : Int) = size + e.2.2.length - e.2.1 := by omega
  refine ⟨by omega, by omega, by omega, by omega, ok, fun x out => 0 ≤ x ∧ x ≤ size ∧ (out.length : Int) = size + e.2.2.length - e.2.1 ∧ ∀ j : Int, 0 ≤ j → j < out.length → (gt out j = true ↔ ∃ i, i < x ∧ inSp l i ∧ ¬ (e.1 ≤ i ∧ i < e.1 + e.2.1) ∧ moved e i true = j),
    fun x _ => (size - x).toNat, ⟨by omega, by omega, by rw [List.length_replicate]; omega, fun j a b => ?_⟩, ?_⟩
  · rw [gt_rep a (by rw [List.length_replicate] at b; omega)]
    constructor
    · intro q; cases q
    · rintro ⟨i, q1, q2, _⟩
      have := sep_in ok.2.2.2 q2; omega
  rintro x out ⟨h0, h1, h2, h3⟩
  dsimp only
  rw [ml]
  refine ⟨fun t => ⟨h0, t, fun _ => by omega, fun c => ?_, fun c => ?_⟩, fun t => ?_⟩
  · obtain ⟨c1, c2⟩ := c
    rw [mask_gt h0 t, bo_true] at c1
    have nc : ¬ (e.1 ≤ x ∧ x < e.1 + e.2.1) := by omega
    have mv := moved_in f h0 h1 true
    have mb : moved e x true < out.length := by
      by_cases q : x < e.1
      · rw [moved_lt q]; omega
      · rw [moved_ge m.2.2.2.2.1 (by omega)]; omega
    refine ⟨⟨by omega, by omega, by omega, by omega, hl.2.2.2.2, by omega, by omega⟩, mv.1, mb, by omega, ⟨by omega, by omega, by rw [List.length_set]; omega, fun j a b => ?_⟩, by omega⟩
    rw [List.length_set] at b
    by_cases q : j = moved e x true
    · subst q
      rw [gt_set_eq a b]
      exact ⟨fun _ => ⟨x, by omega, c1, nc, rfl⟩, fun _ => rfl⟩
    · rw [gt_set_ne mv.1 a (fun z => q z.symm), h3 j a b]
      constructor
      · rintro ⟨i, q1, q2⟩; exact ⟨i, by omega, q2⟩
      · rintro ⟨i, q1, q2, q3, q4⟩
        by_cases z : i = x
        · subst z; exact absurd q4.symm q
        · exact ⟨i, by omega, q2, q3, q4⟩
  · refine ⟨by omega, ⟨by omega, by omega, h2, fun j a b => ?_⟩, by omega⟩
    rw [h3 j a b]
    constructor
    · rintro ⟨i, q1, q2⟩; exact ⟨i, by omega, q2⟩
    · rintro ⟨i, q1, q2, q3, q4⟩
      by_cases z : i = x
      · subst z
        exact absurd ⟨by rw [mask_gt h0 t, bo_true]; exact q2, by omega⟩ c
      · exact ⟨i, by omega, q2, q3, q4⟩
  · refine ⟨fun y o => 0 ≤ y ∧ y ≤ e.2.2.length ∧ o.length = out.length ∧ ∀ j : Int, 0 ≤ j → j < o.length → (gt o j = true ↔ gt out j = true ∨ (e.1 ≤ j ∧ j < e.1 + y)), fun y _ => (e.2.2.length - y).toNat, ⟨by omega, by omega, rfl, fun j a b => ⟨.inl, fun q => q.elim id fun z => by omega⟩⟩, ?_⟩
    rintro y o ⟨g0, g1, g2, g3⟩
    dsimp only
    refine ⟨fun u => ⟨by omega, by omega, by omega, by omega, ⟨by omega, by omega, by rw [List.length_set]; exact g2, fun j a b => ?_⟩, by omega⟩, fun u => ?_⟩
    · rw [List.length_set] at b
      by_cases q : j = e.1 + y
      · subst q
        rw [gt_set_eq a b]
        exact ⟨fun _ => .inr (by omega), fun _ => rfl⟩
      · rw [gt_set_ne (by omega) a (fun z => q z.symm), g3 j a b]
        constructor
        · rintro (z | z)
          · exact .inl z
          · exact .inr (by omega)
        · rintro (z | z)
          · exact .inl z
          · exact .inr (by omega)
    · have q : setOf o = spansFull (shifted l e) := by
        unfold setOf shifted
        congr 1
        refine canon_congr fun j => ?_
        unfold shiftP
        constructor
        · rintro ⟨a, b, c⟩
          rw [g3 j a (by omega), h3 j a (by omega)] at c
          rcases c with ⟨i, c1, c2, c3, c4⟩ | c
          · exact .inl ⟨i, c2, c3, c4⟩
          · exact .inr (by omega)
        · intro c
          have bd : 0 ≤ j ∧ j < o.length := by
            rcases c with ⟨i, c2, c3, c4⟩ | c
            · have s := sep_in ok.2.2.2 c2
              by_cases z : i < e.1
              · rw [moved_lt z] at c4; omega
              · rw [moved_ge m.2.2.2.2.1 (by omega)] at c4; omega
            · omega
          refine ⟨bd.1, bd.2, ?_⟩
          rw [g3 j bd.1 bd.2, h3 j bd.1 (by omega)]
          rcases c with ⟨i, c2, c3, c4⟩ | c
          · have s := sep_in ok.2.2.2 c2
            exact .inl ⟨i, by omega, c2, c3, c4⟩
          · exact .inr (by omega)
      rw [q]
      exact ⟨by simp only [maskPre]; omega, rfl, rfl⟩

theorem law_sameSpans_hC : Cons Try.prog [] := trivial
theorem law_sameSpans_con : Con Try.prog f_law_sameSpans law_sameSpans_ct := law_sameSpans_vc law_sameSpans_hC fun a b h => by
  simp only [inI_iff, true_and, and_true, ne_eq, Int.reduceEq, not_false_eq_true, Int.toNat_zero, false_bo, true_bo, fitL] at *
  refine ⟨fun q e => q (by rw [e]), fun q => ⟨fun i => 0 ≤ i ∧ i ≤ a.length ∧ ∀ j : Int, 0 ≤ j → j < i → gt a j = gt b j, fun i => (a.length - i).toNat, ⟨by omega, by omega, fun j h1 h2 => by omega⟩, fun i ⟨h0, h1, h2⟩ => ?_⟩⟩
  dsimp only
  refine ⟨fun r => ⟨h0, r, h0, by omega, fun t e => t (by rw [e]; exact ⟨rfl, rfl⟩), fun t => ⟨by omega, ⟨by omega, by omega, fun j j0 j1 => ?_⟩, by omega⟩⟩, fun r => ?_⟩
  · by_cases e : j = i
    · rw [e]; have := Classical.byContradiction t; exact Prod.ext this.1 this.2
    · exact h2 j j0 (by omega)
  · exact ext_gt (by omega) fun j j0 j1 => h2 j j0 (by omega)

theorem law_SpansShifts_hC : Cons Try.prog [(f_spans_Shift, spans_Shift_ct), (f_ref_SpansShift, ref_SpansShift_ct), (f_law_sameSpans, law_sameSpans_ct)] := ⟨spans_Shift_con, ref_SpansShift_con, law_sameSpans_con, trivial⟩
theorem law_SpansShifts_con : Con Try.prog f_law_SpansShifts law_SpansShifts_ct := law_SpansShifts_vc law_SpansShifts_hC fun size l e h => by
  have hs : shFits size l e := ⟨h.1, h.2.1.1, h.2.2.1, h.2.2.2.1, Nat.le_of_ble_eq_true (by simpa using h.2.2.2.2)⟩
  exact ⟨hs, hs, ⟨spansShift_len _ _ _, spansShift_len _ _ _⟩, by simp⟩

end Go.Proofs.Ytogjhebilbbdjaa
