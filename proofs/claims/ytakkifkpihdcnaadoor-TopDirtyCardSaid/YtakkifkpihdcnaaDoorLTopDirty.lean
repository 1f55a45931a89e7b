/- The contracts of the functions that the law reaches, and that of the law. Conditions: none. -/
import Derived.Test.YtakkifkpihdcnaaDoorWTopDirty
import Derived.Test.YtakkifkpihdcnaaDoorInsG
import Derived.Test.YtakkifkpihdcnaaDoorP2
set_option linter.unusedVariables false
set_option linter.unusedSimpArgs false
set_option maxRecDepth 100000
namespace Go.Proofs.YtakkifkpihdcnaaDoor
open Go.Vc Go.Fu

theorem keep_Picked_hC : Cons Tryd.prog [] := trivial
theorem keep_Picked_con : Con Tryd.prog f_keep_Picked keep_Picked_ct := keep_Picked_vc keep_Picked_hC fun a n ⟨h1, h2, h3⟩ => by
  have h2 : 0 < n := h2
  have h3 : n ≤ 1000000 := h3
  have e := Int.tmod_eq_emod (a := a) (b := n)
  have e1 := Int.emod_nonneg a (show n ≠ 0 by omega)
  have e2 := Int.emod_lt_of_pos a h2
  unfold pickOf
  by_cases q : 0 ≤ a ∨ n ∣ a
  · rw [if_pos q] at e
    refine ⟨by omega, fun c => ⟨by unfold inI64; omega, by omega⟩, fun c => by omega⟩
  · rw [if_neg q] at e
    refine ⟨by omega, fun c => ⟨by unfold inI64; omega, by omega⟩, fun c => by omega⟩

theorem keep_TextOf_hC : Cons Tryd.prog [(f_keep_Picked, keep_Picked_ct)] := ⟨keep_Picked_con, trivial⟩
theorem keep_TextOf_con : Con Tryd.prog f_keep_TextOf keep_TextOf_ct := keep_TextOf_vc keep_TextOf_hC fun l n ⟨h1, h2, h3⟩ => by
  have h1 : ∀ i ∈ l, inI64 i := h1
  have h2 : 0 ≤ n := h2
  have h3 : n ≤ 1000 := h3
  rw [show ([(97 : UInt8), (98 : UInt8), (32 : UInt8), (10 : UInt8), (97 : UInt8), (98 : UInt8), (99 : UInt8), (100 : UInt8), (32 : UInt8), (98 : UInt8), (10 : UInt8), (97 : UInt8)] : List UInt8) = textSigns from rfl]
  refine ⟨fun out i => 0 ≤ i ∧ i ≤ l.length ∧ i ≤ n ∧ out = textOf l i, fun _ i => (n - i).toNat, ⟨by omega, by omega, h2, by simp [textOf]⟩, ?_⟩
  rintro out i ⟨i0, i1, i2, rfl⟩
  have fl := text_len l i
  refine ⟨fun t => ?_, fun t => ?_⟩
  · have hp : 0 ≤ pickOf (gt l i) 12 ∧ pickOf (gt l i) 12 < 12 := by unfold pickOf; omega
    have e1 : List.drop (Int.toNat 0) (List.take (Int.toNat 1) (List.drop (pickOf (gt l i) 12).toNat (List.take ((12 : Nat) : Int).toNat textSigns))) = [textByte (gt l i)] := text_one (gt l i)
    have e2 : ((List.drop (pickOf (gt l i) 12).toNat (List.take ((12 : Nat) : Int).toNat textSigns)).length : Int) = 12 - pickOf (gt l i) 12 := by
      rw [List.length_drop, show (List.take ((12 : Nat) : Int).toNat textSigns).length = 12 from rfl]; omega
    rw [e1, e2]
    refine ⟨i0, t.1, ⟨h1 _ (gt_mem i0 t.1), (show (0 : Int) < 12 by decide), (show (12 : Int) ≤ 1000000 by decide)⟩, hp.1, by omega, by omega, by omega, by omega, by omega, by simp only [List.length_singleton]; unfold inI64; omega, by unfold inI64; omega, ⟨by omega, by omega, by omega, (text_succ i0 t.1).symm⟩, by dsimp only; omega⟩
  · by_cases c : i = n
    · rw [c]
    · have : i = l.length := by omega
      unfold textOf
      rw [List.take_of_length_le (by omega), List.take_of_length_le (by omega)]

theorem keep_EditOf_hC : Cons Tryd.prog [(f_keep_Picked, keep_Picked_ct), (f_keep_TextOf, keep_TextOf_ct)] := ⟨keep_Picked_con, keep_TextOf_con, trivial⟩
theorem keep_EditOf_con : Con Tryd.prog f_keep_EditOf keep_EditOf_ct := keep_EditOf_vc keep_EditOf_hC fun c size h => by
  obtain ⟨h1, h2, h3, h4, h5⟩ := h
  have h4 : 0 ≤ size := h4
  have h5 : size ≤ 600 := h5
  have p1 := pick_in (a := c.1) (n := size + 1) (by omega)
  refine ⟨by unfold inI64; omega, ⟨h1, (show 0 < size + 1 by omega), (show size + 1 ≤ 1000000 by omega)⟩, by unfold inI64; omega, by unfold inI64; omega, ⟨h2, (show 0 < _ + 1 by omega), (show _ + 1 ≤ 1000000 by omega)⟩, ⟨h3, (show (0 : Int) ≤ 8 by decide), (show (8 : Int) ≤ 1000 by decide)⟩, rfl⟩

theorem edit_Check_hC : Cons Tryd.prog [] := trivial
theorem edit_Check_con : Con Tryd.prog f_edit_Check edit_Check_ct := edit_Check_vc edit_Check_hC fun size e ⟨h1, h2, h3, h4⟩ => (by
  simp only [inI_iff, fitS, editFault] at *
  refine ⟨fun h => by omega, fun h => ?_, fun h => ⟨by omega, by omega, fun g => ?_, fun g => ?_⟩⟩
  · rw [if_pos (by omega)]
  · rw [if_neg (by omega), if_pos (by omega)]
  · rw [if_neg (by omega), if_neg (by omega)])

theorem edit_Made_hC : Cons Tryd.prog [] := trivial
theorem edit_Made_con : Con Tryd.prog f_edit_Made edit_Made_ct := edit_Made_vc edit_Made_hC fun s e h => by
  have h' := editMay_iff.1 h
  have e1 : List.take ((s.length : Int)).toNat s = s := List.take_of_length_le (by omega)
  simp only [inI_iff, true_and, and_true, ne_eq, Int.reduceEq, not_false_eq_true, Int.toNat_zero, e1, List.drop_zero, List.length_append, List.length_take, List.length_drop, editMade]
  exact ⟨by omega, by omega, by omega, by omega, by omega, by omega, by omega, by omega, by omega⟩

theorem edit_Undo_hC : Cons Tryd.prog [] := trivial
theorem edit_Undo_con : Con Tryd.prog f_edit_Undo edit_Undo_ct := edit_Undo_vc edit_Undo_hC fun s e h => by
  have h' := editMay_iff.1 h
  simp only [inI_iff, true_and, and_true, ne_eq, Int.reduceEq, not_false_eq_true, Int.toNat_zero]
  exact ⟨by omega, by omega, by omega, by omega, rfl⟩

theorem edit_run_hC : Cons Tryd.prog [(f_edit_Check, edit_Check_ct), (f_edit_Made, edit_Made_ct), (f_edit_Undo, edit_Undo_ct)] := ⟨edit_Check_con, edit_Made_con, edit_Undo_con, trivial⟩
theorem edit_run_con : Con Tryd.prog f_edit_run edit_run_ct := edit_run_vc edit_run_hC fun s l hl => by
  simp only [inI_iff, true_and, and_true, ne_eq, Int.reduceEq, not_false_eq_true, Int.toNat_zero, prod_eta]
  refine ⟨fun q => by rw [editRun_bad (editsCode_big (by omega)) (by omega)]; exact ⟨rfl, rfl, rfl⟩, fun q => ?_⟩
  have hcode := editsCode_small (s := s) (l := l) (by omega)
  refine ⟨fun t x back => 0 ≤ x ∧ x ≤ l.length ∧ t = editLast s (l.take x.toNat) ∧ back = editBacks s (l.take x.toNat) ∧ t.length ≤ 600 ∧ editCode s.length l = editCode t.length (l.drop x.toNat), fun _ x _ => (l.length - x).toNat, ⟨by omega, by omega, by simp [editLast], by simp [editBacks], by omega, by simp⟩, ?_⟩
  rintro t x back ⟨h0, h1, h2, h3, h4, h5⟩
  dsimp only
  refine ⟨fun r => ?_, fun r => ?_⟩
  · rw [drop_gt h0 r] at h5
    have hf := hl _ (gt_mem h0 r)
    have hb : back.length = x.toNat := by rw [h3, editBacks_len]; simp only [List.length_take]; omega
    have ht := take_gt h0 r
    generalize gt l x = e at *
    simp only [editCode] at h5
    refine ⟨h0, r, ⟨by omega, hf⟩, fun u => ?_, fun u => ?_⟩
    · rw [if_pos u] at h5; rw [editRun_bad (hcode.trans h5) u]; exact ⟨rfl, rfl, rfl⟩
    · rw [if_neg u] at h5
      have hm : editMay t.length e := Classical.byContradiction u
      have hm' := editMay_iff.1 hm
      have hml := editMade_len hm
      refine ⟨hm, by omega, hm, by omega, ⟨by omega, by omega, ?_, ?_, by omega, by rw [h5, hml]⟩, by omega⟩
      · rw [ht, editLast_snoc, ← h2]
      · rw [ht, editBacks_snoc, ← h2, ← h3]
  · rw [List.drop_of_length_le (by omega)] at h5
    rw [List.take_of_length_le (by omega)] at h2 h3
    rw [editRun_ok (hcode.trans h5)]
    exact ⟨h2, h3, rfl⟩

theorem edit_Apply_hC : Cons Tryd.prog [(f_edit_run, edit_run_ct)] := ⟨edit_run_con, trivial⟩
theorem edit_Apply_con : Con Tryd.prog f_edit_Apply edit_Apply_ct := edit_Apply_vc edit_Apply_hC fun s l hl => ⟨hl, rfl, rfl⟩

theorem spans_May_hC : Cons Tryd.prog [] := trivial
theorem spans_May_con : Con Tryd.prog f_spans_May spans_May_ct := spans_May_vc spans_May_hC fun size l hl => by
  simp only [inI_iff, true_and, and_true, ne_eq, Int.reduceEq, not_false_eq_true, Int.toNat_zero, fitL, spansOk, false_bo, true_bo] at *
  refine ⟨fun h => by omega, fun h => ⟨fun last x => 0 ≤ x ∧ x ≤ l.length ∧ (spansOkFrom size (-1) l ↔ spansOkFrom size last (l.drop x.toNat)), fun _ x => (l.length - x).toNat, ⟨by omega, by omega, by simp⟩, fun last x ⟨h0, h1, h2⟩ => ?_⟩⟩
  dsimp only
  refine ⟨fun q => ?_, fun q => ?_⟩
  · rw [drop_gt h0 q] at h2
    simp only [spansOkFrom] at h2
    refine ⟨h0, q, fun r => ?_, fun r => ⟨by omega, ⟨by omega, by omega, ?_⟩, by omega⟩⟩
    · rw [h2]; omega
    · rw [h2]
      refine ⟨fun z => z.2.2.2, fun z => ⟨by omega, by omega, by omega, z⟩⟩
  · rw [List.drop_of_length_le (by omega)] at h2
    simp only [spansOkFrom, iff_true] at h2
    exact ⟨by omega, by omega, by omega, h2⟩

theorem slices_Clone___api_Span_api_Span__hC : Cons Tryd.prog [] := trivial
theorem slices_Clone___api_Span_api_Span__con : Con Tryd.prog f_slices_Clone___api_Span_api_Span_ slices_Clone___api_Span_api_Span__ct := slices_Clone___api_Span_api_Span__vc slices_Clone___api_Span_api_Span__hC fun s hs nl hn => by
  refine ⟨fun c => ?_, fun c => ⟨by simp only [fitM] at hs; omega, rfl⟩⟩
  have := hn c
  exact (List.length_eq_zero_iff.1 (by omega)).symm

theorem spans_Without_hC : Cons Tryd.prog [(f_slices_Clone___api_Span_api_Span_, slices_Clone___api_Span_api_Span__ct)] := ⟨slices_Clone___api_Span_api_Span__con, trivial⟩
theorem spans_Without_con : Con Tryd.prog f_spans_Without spans_Without_ct := spans_Without_vc spans_Without_hC fun l s ⟨⟨hl, hp⟩, hs⟩ => by
  simp only [inI_iff, true_and, and_true, ne_eq, Int.reduceEq, not_false_eq_true, Int.toNat_zero, prod_eta, Classical.not_not] at *
  refine ⟨fun x out => 0 ≤ x ∧ x ≤ l.length ∧ out = withoutRaw (l.take x.toNat) s, fun x _ => (l.length - x).toNat, ⟨by omega, by omega, by simp [withoutRaw]⟩, ?_⟩
  rintro x out ⟨h0, h1, h2⟩
  dsimp only
  have ol : out.length = 2 * x.toNat := by rw [h2, raw_len, List.length_take]; omega
  refine ⟨fun t => ⟨h0, t, by omega, by omega, ⟨by omega, by omega, by rw [raw_succ h0 t, h2]⟩, by omega⟩, fun t => ⟨fun e => ⟨by simp only [fitM]; omega, canon_self e hp⟩, fun e => ?_⟩⟩
  have ho : out = withoutRaw l s := by rw [h2, List.take_of_length_le (by omega)]
  have hlt : s.1 < s.2 := by obtain ⟨_, h, _⟩ := hs; omega
  have res : notBare out = without l s := by rw [ho]; exact canon_raw hlt hp
  refine ⟨fun x => 0 ≤ x ∧ x ≤ out.length ∧ ∀ j : Int, 0 ≤ j → j < x → (gt out j).1 < (gt out j).2, fun x => (out.length - x).toNat, ⟨by omega, by omega, fun j a b => by omega⟩, ?_⟩
  rintro x ⟨g0, g1, g2⟩
  dsimp only
  refine ⟨fun u => ⟨g0, u, fun v => ⟨fun c => by omega, fun _ => ⟨by omega, fun i j s' => thin out s' i j, fun _ j _ => (out.length - j).toNat, thin_start g0 u g2 (by omega), ?_⟩⟩, fun v => ⟨by omega, ⟨by omega, by omega, fun j a b => ?_⟩, by omega⟩⟩, fun u => ⟨fun _ => ?_, fun c => by simp at c⟩⟩
  · rintro i j s' h
    have h' := h
    obtain ⟨k1, k2, k3, k4, k5, k6⟩ := h'
    dsimp only
    refine ⟨fun w => ⟨by omega, w, fun b => ⟨k1, by omega, by omega, by omega, thin_keep h (by omega) (by omega), by omega⟩, fun b => ⟨by omega, thin_drop h (by omega) (by omega), by omega⟩⟩, fun w => ⟨k1, by omega, by omega, by omega, k1, by simp only [List.length_append, List.length_take, List.length_replicate, List.length_drop]; omega, ?_⟩⟩
    rw [← res, ← thin_end h (by omega), Int.sub_zero, List.append_assoc, List.take_append_of_le_length (by simp; omega), List.take_of_length_le (by simp; omega)]
  · by_cases e : j = x
    · subst e; omega
    · exact g2 j a (by omega)
  · rw [← res, notBare_all]
    intro j a b
    exact g2 j a (by omega)
theorem spans_Without_conv : Con Tryd.prog f_spans_Without spans_Without_ctv := Con.frozen spans_Without_con

theorem spans_Joined_hC : Cons Tryd.prog [] := trivial
theorem spans_Joined_con : Con Tryd.prog f_spans_Joined spans_Joined_ct := spans_Joined_vc spans_Joined_hC fun l ha => by
  have hl : l.length ≤ 100001 := ha.1
  refine ⟨fun x out => 0 ≤ x ∧ x ≤ l.length ∧ Jn l x out, fun x _ => (l.length - x).toNat, ⟨by omega, by omega, .init l⟩, ?_⟩
  rintro x out ⟨x0, x1, h⟩
  have ol := h.len
  dsimp only
  refine ⟨fun t => ⟨x0, t, fun e => ⟨by unfold inI64; omega, ⟨by omega, by omega, h.skip x0 t e⟩, by omega⟩, fun e => ⟨fun _ => by unfold inI64; omega, fun _ => by omega, fun _ => by omega, fun c => ?_, fun c => ?_⟩⟩, fun t => h.fin t⟩
  · have c0 := c.1
    exact ⟨by unfold inI64; omega, by unfold inI64; omega, by omega, by omega, by omega, by omega, by unfold inI64; omega, ⟨by omega, by omega, h.more ha x0 t (by omega) c.2⟩, by omega⟩
  · exact ⟨by omega, by unfold inI64; omega, ⟨by omega, by omega, h.next ha x0 t e fun q => c ⟨by omega, q.2⟩⟩, by omega⟩
theorem spans_With_con : Con Tryd.prog f_spans_With spans_With_ct := with_con id spans_Joined_con

theorem spans_Shifted_hC : Cons Tryd.prog [(f_spans_Without, spans_Without_ctv), (f_spans_Joined, spans_Joined_ct), (f_spans_With, spans_With_ct)] := ⟨spans_Without_conv, spans_Joined_con, spans_With_con, trivial⟩
theorem spans_Shifted_con : Con Tryd.prog f_spans_Shifted spans_Shifted_ct := spans_Shifted_vc spans_Shifted_hC fun l e ⟨size, ok, f⟩ => by
  simp only [inI_iff, true_and, and_true, ne_eq, Int.reduceEq, not_false_eq_true, Int.toNat_zero, prod_eta] at *
  have m := editMay_iff.1 (show editMay size e from f)
  obtain ⟨u1, u2, u3⟩ := left_uncut ok f
  obtain ⟨k1, k2, k3, k4⟩ := shift_with ok f
  generalize hW : without l (e.1, e.1 + e.2.1) = W at *
  refine ⟨by omega, ⟨spansOk_pre ok, m.2.2.1, by show e.1 ≤ e.1 + e.2.1; omega, by show e.1 + e.2.1 ≤ 1000000; omega⟩, fun x out => 0 ≤ x ∧ x ≤ W.length ∧ out = shRaw e (W.take x.toNat), fun x _ => (W.length - x).toNat, ⟨by omega, by omega, by simp [shRaw]⟩, ?_⟩
  rintro x out ⟨h0, h1, h2⟩
  dsimp only
  have ol : out.length ≤ 2 * x.toNat := by
    have := shRaw_len e (W.take x.toNat)
    rw [h2]; simp only [List.length_take] at this; omega
  refine ⟨fun t => ?_, fun t => ?_⟩
  · have b := u1 _ (gt_mem h0 t)
    have hs := shRaw_succ (e := e) h0 t
    have b' := b
    obtain ⟨a1, a2, a3, a4, a5, a6, a7, a8⟩ := b'
    unfold shStep at hs
    refine ⟨h0, t, fun c => ?_, fun c => ?_⟩
    · rw [if_pos c] at hs
      refine ⟨by omega, fun _ => ⟨by omega, by omega, by omega, by simp only [List.length_append, List.length_singleton]; omega, by omega, ⟨by omega, by omega, ?_⟩, by omega⟩, fun q => absurd (Int.le_refl _) q⟩
      rw [hs, h2, List.append_assoc]; rfl
    · rw [if_neg c] at hs
      refine ⟨fun d => ?_, fun d => ?_⟩
      · rw [if_pos d] at hs
        exact ⟨by omega, by omega, by omega, by omega, by omega, ⟨by omega, by omega, by rw [hs, h2]⟩, by omega⟩
      · rw [if_neg d] at hs
        exact ⟨by omega, by omega, ⟨by omega, by omega, by rw [hs, h2]⟩, by omega⟩
  · rw [List.take_of_length_le (by omega)] at h2
    subst h2
    exact ⟨by omega, k1, ⟨k2, k3⟩, k4⟩

theorem spans_Shift_hC : Cons Tryd.prog [(f_spans_May, spans_May_ct), (f_edit_Check, edit_Check_ct), (f_spans_Shifted, spans_Shifted_ct)] := ⟨spans_May_con, edit_Check_con, spans_Shifted_con, trivial⟩
theorem spans_Shift_con : Con Tryd.prog f_spans_Shift spans_Shift_ct := spans_Shift_vc spans_Shift_hC fun size l e hl => by
  simp only [inI_iff, true_and, and_true, ne_eq, Int.reduceEq, not_false_eq_true, Int.toNat_zero, prod_eta, bo_true, Classical.not_not] at *
  refine ⟨hl.2.1, fun c => by rw [spansShift_a c]; exact ⟨rfl, rfl⟩, fun ok => ⟨⟨hl.1, hl.2.2⟩, fun c => by rw [spansShift_b ok c]; exact ⟨rfl, rfl⟩, fun c => ?_⟩⟩
  have f : editFault size e = 0 := c
  rw [spansShift_c ok f]
  exact ⟨⟨size, ok, f⟩, fun d => by unfold spansFull; rw [if_pos (by omega)]; exact ⟨rfl, rfl⟩, fun d => by unfold spansFull; rw [if_neg (by omega)]; exact ⟨rfl, rfl⟩⟩

theorem spans_Widened_hC : Cons Tryd.prog [] := trivial
theorem spans_Widened_con : Con Tryd.prog f_spans_Widened spans_Widened_ct := spans_Widened_vc spans_Widened_hC fun s x ⟨w1, w2, w3, w4⟩ => by
  have e1 : List.take ((s.length : Int)).toNat s = s := List.take_of_length_le (by omega)
  have e10 : ((10 : Int).toNat).toUInt8 = (10 : UInt8) := rfl
  simp only [inI_iff, true_and, and_true, ne_eq, Int.reduceEq, not_false_eq_true, Int.toNat_zero, e1, e10, List.drop_zero, List.length_take]
  obtain ⟨lo, hi⟩ := x
  dsimp only at *
  have ib := indexByte_spec (s.drop hi.toNat) 10
  have hl : ((s.drop hi.toNat).length : Int) = s.length - hi := by simp; omega
  rw [hl] at ib
  have gd : ∀ j : Int, 0 ≤ j → gt (s.drop hi.toNat) j = gt s (hi + j) := fun j hj => by rw [gt_drop hj]; congr 1; omega
  generalize Lib.indexByte (s.drop hi.toNat) 10 = ix at *
  have up : 0 ≤ ix → lineHi s hi = hi + (ix + 1) := fun h => by
    rcases ib with ⟨b1, _⟩ | ⟨b1, b2, b3, b4⟩
    · omega
    · refine lineHi_eq ⟨by omega, by omega, fun j a b => ?_, fun _ => ⟨by omega, ?_⟩⟩
      · have := b4 (j - hi) (by omega) (by omega)
        rwa [gd _ (by omega), show hi + (j - hi) = j by omega] at this
      · rw [gd _ b1] at b3
        rw [show hi + (ix + 1) - 1 = hi + ix by omega]; exact b3
  have dn : ¬ 0 ≤ ix → lineHi s hi = s.length := fun h => by
    rcases ib with ⟨b1, b2⟩ | ⟨b1, _⟩
    · have nl : ∀ j, hi ≤ j → j < s.length → gt s j ≠ 10 := fun j a b => by
        have := b2 (j - hi) (by omega) (by omega)
        rwa [gd _ (by omega), show hi + (j - hi) = j by omega] at this
      refine lineHi_eq ⟨by omega, by omega, fun j a b => nl j a (by omega), fun h => ?_⟩
      rcases h with h | ⟨h, h'⟩
      · omega
      · exact absurd h' (nl _ (by omega) (by omega))
    · omega
  refine ⟨by omega, w2, by omega, by omega, fun i => -1 ≤ i ∧ i < lo ∧ ∀ j, i < j → j < lo → gt s j ≠ 10, fun i => (i + 1).toNat, ⟨by omega, by omega, fun j a b => by omega⟩, ?_⟩
  rintro i ⟨h0, h1, h2⟩
  dsimp only
  refine ⟨fun t => ⟨t, by omega, fun u => ?_, fun u => ⟨by omega, ⟨by omega, by omega, fun j a b => ?_⟩, by omega⟩⟩, fun t => ?_⟩
  · rw [gt_take t (by omega)] at u
    have u := byte10.1 u
    have el : lineLo s lo = i + 1 := lineLo_eq ⟨by omega, by omega, fun j a b => h2 j (by omega) b, fun _ => by rw [show i + 1 - 1 = i by omega]; exact u⟩
    refine ⟨by omega, by omega, by omega, by omega, fun v => ⟨by omega, by omega, ?_⟩, fun v => ?_⟩
    · simp only [widened, el, up v]
    · simp only [widened, el, dn v]
  · rw [gt_take t (by omega)] at u
    by_cases e : j = i
    · rw [e]; exact fun c => u (byte10.2 c)
    · exact h2 j (by omega) b
  · have el : lineLo s lo = -1 + 1 := lineLo_eq ⟨by omega, by omega, fun j a b => h2 j (by omega) b, fun h => by omega⟩
    refine ⟨by omega, by omega, by omega, by omega, fun v => ⟨by omega, by omega, ?_⟩, fun v => ?_⟩
    · simp only [widened, el, up v]
    · simp only [widened, el, dn v]

theorem spans_Widen_hC : Cons Tryd.prog [(f_spans_Widened, spans_Widened_ct)] := ⟨spans_Widened_con, trivial⟩
theorem spans_Widen_con : Con Tryd.prog f_spans_Widen spans_Widen_ct := spans_Widen_vc spans_Widen_hC fun s x hs => by
  simp only [spansWiden, prod_eta]
  refine ⟨fun q => by rw [if_pos (by omega)]; exact ⟨rfl, rfl⟩, fun q => ?_⟩
  rw [if_neg (by omega)]
  refine ⟨fun r => by rw [if_pos (by omega)]; exact ⟨rfl, rfl⟩, fun r => ?_⟩
  rw [if_neg (by omega)]
  exact ⟨⟨by omega, by omega, by omega, by omega⟩, rfl, rfl⟩

theorem poly_Of_hC : Cons Tryd.prog [] := trivial
theorem poly_Of_con : Con Tryd.prog f_poly_Of poly_Of_ct := poly_Of_vc poly_Of_hC fun s hs => by
  simp only [inI_iff, true_and, and_true, ne_eq, Int.reduceEq, not_false_eq_true, Int.toNat_zero]
  refine ⟨fun x a b => 0 ≤ x ∧ x ≤ s.length ∧ (a, b) = polyOf (s.take x.toNat), fun x _ _ => (s.length - x).toNat, by simp [polyOf], fun x a b ⟨h0, h1, h2⟩ => ?_⟩
  dsimp only
  refine ⟨fun h => ?_, fun h => ?_⟩
  · have bd := polyOf_bd (s.take x.toNat)
    rw [← h2] at bd
    simp only at bd
    have hb := byte_lt (gt s x)
    have hb0 := byte_nn (gt s x)
    unfold fitS at hs
    rw [Int.tmod_eq_emod_of_nonneg (by omega), Int.tmod_eq_emod_of_nonneg (by omega)]
    refine ⟨by omega, h0, h, by omega, by omega, by omega, by omega, ⟨by omega, by omega, ?_⟩, by omega⟩
    rw [take_gt h0 h, polyOf_snoc, ← h2]
    rfl
  · rw [h2, List.take_of_length_le (by omega)]
theorem poly_Lines_con : Con Tryd.prog f_poly_Lines poly_Lines_ct := P.poly_Lines_con poly_Of_con

theorem top_sameInts_hC : Cons Tryd.prog [] := trivial
theorem top_sameInts_con : Con Tryd.prog f_top_sameInts law_sameInts_ct := top_sameInts_vc top_sameInts_hC fun a b h => by
  simp only [inI_iff, true_and, and_true, ne_eq, Int.reduceEq, not_false_eq_true, Int.toNat_zero, false_bo, true_bo, fitL] at *
  refine ⟨fun q e => q (by rw [e]), fun q => ⟨fun i => 0 ≤ i ∧ i ≤ a.length ∧ ∀ j : Int, 0 ≤ j → j < i → gt a j = gt b j, fun i => (a.length - i).toNat, ⟨by omega, by omega, fun j h1 h2 => by omega⟩, fun i ⟨h0, h1, h2⟩ => ?_⟩⟩
  dsimp only
  refine ⟨fun r => ⟨h0, r, h0, by omega, fun t e => t (by rw [e]), fun t => ⟨by omega, ⟨by omega, by omega, fun j j0 j1 => ?_⟩, by omega⟩⟩, fun r => ?_⟩
  · by_cases e : j = i
    · rw [e]; exact Classical.byContradiction t
    · exact h2 j j0 (by omega)
  · exact ext_gt (by omega) fun j j0 j1 => h2 j j0 (by omega)

theorem top_TopDirty_hC : Cons Tryd.prog [(f_keep_TextOf, keep_TextOf_ct), (f_keep_EditOf, keep_EditOf_ct), (f_edit_Apply, edit_Apply_ct), (f_spans_Shift, spans_Shift_ct), (f_spans_Widen, spans_Widen_ct), (f_poly_Lines, poly_Lines_ct), (f_top_sameInts, law_sameInts_ct)] := ⟨keep_TextOf_con, keep_EditOf_con, edit_Apply_con, spans_Shift_con, spans_Widen_con, poly_Lines_con, top_sameInts_con, trivial⟩
theorem law_TopDirty_con : Con Tryd.prog f_top_TopDirty law_TopDirty_ct := top_TopDirty_vc top_TopDirty_hC fun text c ⟨⟨_, h1⟩, h2, h3, _, h4⟩ => by
  have l1 := text_len text 100
  have f1 : fewPre (text, 100) := ⟨h1, (show (0 : Int) ≤ 100 by decide), (show (100 : Int) ≤ 1000 by decide)⟩
  generalize textOf text 100 = s at *
  have hs : s.length ≤ 100 := by omega
  have f2 : chgPre ((c.1, c.2.1, c.2.2), (s.length : Int)) := ⟨h2, h3, h4, (show (0 : Int) ≤ s.length by omega), (show (s.length : Int) ≤ 600 by omega)⟩
  have e0 := edit_ok (c := (c.1, c.2.1, c.2.2)) (size := s.length) (by omega)
  generalize editOf (c.1, c.2.1, c.2.2) (s.length : Int) = e at *
  obtain ⟨k, cut, put⟩ := e
  obtain ⟨a0, a1, a2, a3, a4⟩ := e0
  dsimp only at a0 a1 a2 a3 a4
  obtain ⟨t, l, w, o, q1, q2, q3, q4, q5, q6, ⟨b1, b2⟩, ⟨b3, b4⟩, ⟨b5, b6⟩, ⟨b7, b8⟩, q7, q8⟩ := dirty hs a0 a1 a2 a3 a4
  have ef : editFits (k, cut, put) := ⟨by show inI64 k; unfold inI64; omega, by show inI64 cut; unfold inI64; omega, by show put.length ≤ _; omega⟩
  have hu := lines_ok (u := s.take o.1.toNat) (by rw [List.length_take]; omega)
  have hv := lines_ok (u := s.drop o.2.toNat) (by rw [List.length_drop]; omega)
  have z : (Int.toNat 0) = 0 := rfl
  simp only [q1, q3, q5, q6, Int.toNat_natCast, List.take_length, List.drop_zero, z, q7, q8, hu.1, hv.1]
  refine ⟨f1, f2, fun x hx => by simp only [List.mem_singleton] at hx; subst hx; exact ef, ⟨by unfold inI64; omega, Nat.zero_le _, ef⟩, fun h => ?_, fun _ => ⟨by unfold inI64; omega, by show t.length ≤ _; omega, by unfold inI64; omega, by show s.length ≤ _; omega, fun h => ?_, fun _ => ⟨Int.le_refl _, b1, b2, trivial, Int.le_refl _, b3, b4, trivial, b5, b6, Int.le_refl _, trivial, b7, b8, Int.le_refl _, trivial, fun _ => ⟨hu.2.2, hu.2.2⟩, fun _ => ⟨hv.2.2, hv.2.2⟩, ?_⟩⟩⟩
  · rcases h with (h | h) | h
    · exact absurd rfl h
    · exact absurd rfl h
    · exact absurd q4 h
  · rcases h with h | h <;> exact absurd rfl h
  · refine bo_true.2 ?_
    exact ⟨⟨⟨⟨⟨⟨⟨trivial, trivial⟩, trivial⟩, trivial⟩, hu.2.1⟩, hv.2.1⟩, bo_true.2 trivial⟩, bo_true.2 trivial⟩

end Go.Proofs.YtakkifkpihdcnaaDoor
