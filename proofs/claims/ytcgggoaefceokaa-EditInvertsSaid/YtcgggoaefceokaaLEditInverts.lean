/- The contracts of the functions that the law reaches, and that of the law. Conditions: none. -/
import Derived.Test.YtcgggoaefceokaaWEditInverts
set_option linter.unusedVariables false
set_option linter.unusedSimpArgs false
set_option maxRecDepth 100000
namespace Go.Proofs.Ytcgggoaefceokaa
open Go.Vc Go.Fu

theorem edit_Check_hC : Cons Try.prog [] := trivial
theorem edit_Check_con : Con Try.prog f_edit_Check edit_Check_ct := edit_Check_vc edit_Check_hC fun size e ⟨h1, h2, h3, h4⟩ => (by
  simp only [inI_iff, fitS, editFault] at *
  refine ⟨fun h => by omega, fun h => ?_, fun h => ⟨by omega, by omega, fun g => ?_, fun g => ?_⟩⟩
  · rw [if_pos (by omega)]
  · rw [if_neg (by omega), if_pos (by omega)]
  · rw [if_neg (by omega), if_neg (by omega)])

theorem edit_Made_hC : Cons Try.prog [] := trivial
theorem edit_Made_con : Con Try.prog f_edit_Made edit_Made_ct := edit_Made_vc edit_Made_hC fun s e h => by
  have h' := editMay_iff.1 h
  have e1 : List.take ((s.length : Int)).toNat s = s := List.take_of_length_le (by omega)
  simp only [inI_iff, true_and, and_true, ne_eq, Int.reduceEq, not_false_eq_true, Int.toNat_zero, e1, List.drop_zero, List.length_append, List.length_take, List.length_drop, editMade]
  exact ⟨by omega, by omega, by omega, by omega, by omega, by omega, by omega, by omega, by omega⟩

theorem edit_Undo_hC : Cons Try.prog [] := trivial
theorem edit_Undo_con : Con Try.prog f_edit_Undo edit_Undo_ct := edit_Undo_vc edit_Undo_hC fun s e h => by
  have h' := editMay_iff.1 h
  simp only [inI_iff, true_and, and_true, ne_eq, Int.reduceEq, not_false_eq_true, Int.toNat_zero]
  exact ⟨by omega, by omega, by omega, by omega, rfl⟩

theorem edit_run_hC : Cons Try.prog [(f_edit_Check, edit_Check_ct), (f_edit_Made, edit_Made_ct), (f_edit_Undo, edit_Undo_ct)] := ⟨edit_Check_con, edit_Made_con, edit_Undo_con, trivial⟩
theorem edit_run_con : Con Try.prog f_edit_run edit_run_ct := edit_run_vc edit_run_hC fun s l hl => by
  simp only [inI_iff, true_and, and_true, ne_eq, Int.reduceEq, not_false_eq_true, Int.toNat_zero, prod_eta]
  refine ⟨fun q => by rw [editRun_bad (editsCode_big (by omega)) (by omega)]; exact ⟨rfl, rfl, rfl⟩, fun q => ?_⟩
  have hcode := editsCode_small (s := s) (l := l) (by omega)
  refine ⟨fun t x back => 0 ≤ x ∧ x ≤ l.length ∧ t = editLast s (l.take x.toNat) ∧ back = editBacks s (l.take x.toNat) ∧ t.length ≤ 600 ∧ editCode s.length l = editCode t.length (l.drop x.toNat), fun _ x _ => (l.length - x).toNat, ⟨by omega, by omega, by simp [editLast], by simp [editBacks], by omega, by simp⟩, ?_⟩
  rintro t x back ⟨h0, h1, h2, h3, h4, h5⟩
  dsimp only
  refine ⟨fun r => ?_, fun r => ?_⟩
  · rw [drop_gt h0 r] at h5
    have hf := hl _ (gt_mem h0 r)
    have hb : back.length = x.toNat := by rw [h3, editBacks_len]; simp only [List.length_take]; omega
    have ht := take_gt h0 r
    generalize gt l x = e at *
    simp only [editCode] at h5
    refine ⟨h0, r, ⟨by omega, hf⟩, fun u => ?_, fun u => ?_⟩
    · rw [if_pos u] at h5; rw [editRun_bad (hcode.trans h5) u]; exact ⟨rfl, rfl, rfl⟩
    · rw [if_neg u] at h5
      have hm : editMay t.length e := Classical.byContradiction u
      have hm' := editMay_iff.1 hm
      have hml := editMade_len hm
      refine ⟨hm, by omega, hm, by omega, ⟨by omega, by omega, ?_, ?_, by omega, by rw [h5, hml]⟩, by omega⟩
      · rw [ht, editLast_snoc, ← h2]
      · rw [ht, editBacks_snoc, ← h2, ← h3]
  · rw [List.drop_of_length_le (by omega)] at h5
    rw [List.take_of_length_le (by omega)] at h2 h3
    rw [editRun_ok (hcode.trans h5)]
    exact ⟨h2, h3, rfl⟩

theorem edit_Invert_hC : Cons Try.prog [(f_edit_run, edit_run_ct)] := ⟨edit_run_con, trivial⟩
theorem edit_Invert_con : Con Try.prog f_edit_Invert edit_Invert_ct := edit_Invert_vc edit_Invert_hC fun s l hl => by
  have hn : (editRun s l).2.1.length ≤ 60 := by
    unfold editRun
    split
    · rename_i q; simp only [editBacks_len]; exact (editsCode_ok q).1
    · simp
  simp only [inI_iff, true_and, and_true, ne_eq, Int.reduceEq, not_false_eq_true, Int.toNat_zero, prod_eta, editInvert]
  generalize hL : (editRun s l).2.1 = L at *
  refine ⟨hl, by omega, fun i j S => S.length = L.length ∧ 0 ≤ i ∧ i + j = L.length - 1 ∧ i ≤ j + 1 ∧ ∀ k : Int, 0 ≤ k → k < L.length → gt S k = if k < i ∨ j < k then gt L (L.length - 1 - k) else gt L k, fun i j _ => (j - i + 1).toNat, ⟨rfl, by omega, by omega, by omega, fun k k0 k1 => by rw [if_neg (by omega)]⟩, ?_⟩
  rintro i j S ⟨h0, h1, h2, h3, h4⟩
  dsimp only
  refine ⟨fun t => ⟨by omega, by omega, by omega, by omega, by omega, by omega, by omega, by simp; omega, by omega, by omega, ⟨by simp; omega, by omega, by omega, by omega, fun k k0 k1 => ?_⟩, by omega⟩, fun t => ?_⟩
  · by_cases e : k = j
    · subst e
      rw [gt_set_eq (by omega) (by simp; omega), if_pos (by omega), h4 i h1 (by omega), if_neg (by omega)]
      congr 1; omega
    · rw [gt_set_ne (by omega) k0 (fun q => e q.symm)]
      by_cases e2 : k = i
      · subst e2
        rw [gt_set_eq (by omega) (by omega), if_pos (by omega), h4 j (by omega) (by omega), if_neg (by omega)]
        congr 1; omega
      · rw [gt_set_ne (by omega) k0 (fun q => e2 q.symm), h4 k k0 k1]
        by_cases c : k < i ∨ j < k
        · rw [if_pos c, if_pos (by omega)]
        · rw [if_neg c, if_neg (by omega)]
  · refine ext_gt (by simp; exact h0) fun k k0 k1 => ?_
    rw [h4 k k0 (by omega), gt_reverse k0 (by omega)]
    split
    · rfl
    · congr 1; omega

theorem ref_EditFault_hC : Cons Try.prog [] := trivial
theorem ref_EditFault_con : Con Try.prog f_ref_EditFault ref_EditFault_ct := ref_EditFault_vc ref_EditFault_hC fun size e ⟨h1, h2, h3, h4⟩ => (by
  simp only [inI_iff, fitS, editFault] at *
  refine ⟨fun h => by omega, fun h => ?_, fun h => ⟨by omega, by omega, fun g => ?_, fun g => ?_⟩⟩
  · rw [if_pos (by omega)]
  · rw [if_neg (by omega), if_pos (by omega)]
  · rw [if_neg (by omega), if_neg (by omega)])

theorem ref_editMade_hC : Cons Try.prog [] := trivial
theorem ref_editMade_con : Con Try.prog f_ref_editMade ref_editMade_ct := ref_editMade_vc ref_editMade_hC fun s e h => by
  have h' := editMay_iff.1 h
  simp only [inI_iff, true_and, and_true, ne_eq, Int.reduceEq, not_false_eq_true, Int.toNat_zero]
  obtain ⟨a, c, p⟩ := e
  dsimp only at *
  refine ⟨fun out i => 0 ≤ i ∧ i ≤ s.length + 1 ∧ out = if i ≤ a then s.take i.toNat else s.take a.toNat ++ p ++ (s.take i.toNat).drop (a + c).toNat, fun _ i => (s.length + 1 - i).toNat, ⟨by omega, by omega, by rw [if_pos (by omega)]; simp⟩, ?_⟩
  rintro out i ⟨h0, h1, h2⟩
  dsimp only
  have hl : out.length ≤ 1300 := by
    rw [h2]; split <;> (try simp only [List.length_append, List.length_take, List.length_drop]) <;> omega
  refine ⟨fun t => ⟨fun _ => by omega, fun _ => by omega, fun _ => by omega, fun _ => by omega, fun _ => by omega, fun _ => by omega, fun u => ?_, by omega, ⟨by omega, by omega, ?_⟩, by omega⟩, fun t => ?_⟩
  · by_cases e : i = a
    · rw [iteP_pos e]; simp only [List.length_append, List.length_take, List.length_drop]; omega
    · rw [iteP_neg e]; simp only [List.length_append, List.length_take, List.length_drop]; omega
  · by_cases u : i < s.length ∧ (i < a ∨ a + c ≤ i)
    · rw [iteP_pos u, sub_one h0 u.1]
      by_cases e : i = a
      · rw [iteP_pos e, if_neg (by omega), h2, if_pos (by omega), take_gt h0 u.1, ← e]
        have : ((List.take i.toNat s ++ [gt s i]).drop (i + c).toNat) = [gt s i] := by
          rw [show (i + c).toNat = i.toNat by omega]
          exact List.drop_left' (by simp only [List.length_take]; omega)
        rw [this]
      · rw [iteP_neg e, h2]
        by_cases q : i < a
        · rw [if_pos (by omega), if_pos (by omega), take_gt h0 u.1]
        · rw [if_neg (by omega), if_neg (by omega), take_gt h0 u.1, List.drop_append_of_le_length (by simp only [List.length_take]; omega), List.append_assoc]
    · rw [iteP_neg u]
      by_cases e : i = a
      · rw [iteP_pos e, if_neg (by omega), h2, if_pos (by omega)]
        have : (List.take (i + 1).toNat s).drop (a + c).toNat = [] := List.drop_of_length_le (by simp only [List.length_take]; omega)
        rw [this, ← e]; simp
      · rw [iteP_neg e, h2, if_neg (by omega), if_neg (by omega)]
        by_cases q : i < s.length
        · rw [List.drop_of_length_le (by simp only [List.length_take]; omega), List.drop_of_length_le (by simp only [List.length_take]; omega)]
        · rw [List.take_of_length_le (i := i.toNat) (by omega), List.take_of_length_le (i := (i + 1).toNat) (by omega)]
  · rw [h2, if_neg (by omega), List.take_of_length_le (l := s) (i := i.toNat) (by omega)]; rfl

theorem ref_EditApplied_hC : Cons Try.prog [(f_ref_EditFault, ref_EditFault_ct), (f_ref_editMade, ref_editMade_ct)] := ⟨ref_EditFault_con, ref_editMade_con, trivial⟩
theorem ref_EditApplied_con : Con Try.prog f_ref_EditApplied ref_EditApplied_ct := ref_EditApplied_vc ref_EditApplied_hC fun s l hl => by
  simp only [inI_iff, true_and, and_true, ne_eq, Int.reduceEq, not_false_eq_true, Int.toNat_zero, prod_eta]
  refine ⟨fun q => by rw [editApplied_bad (editsCode_big (by omega)) (by omega)]; exact ⟨rfl, rfl⟩, fun q => ?_⟩
  have hcode := editsCode_small (s := s) (l := l) (by omega)
  refine ⟨fun x all => 0 ≤ x ∧ x ≤ l.length ∧ all = editTexts s (l.take x.toNat) ∧ (editLast s (l.take x.toNat)).length ≤ 600 ∧ editCode s.length l = editCode (editLast s (l.take x.toNat)).length (l.drop x.toNat), fun x _ => (l.length - x).toNat, ⟨by omega, by omega, by simp [editTexts], by simp only [Int.toNat_zero, List.take_zero, editLast]; omega, by simp [editLast]⟩, ?_⟩
  rintro x all ⟨h0, h1, h2, h4, h5⟩
  dsimp only
  refine ⟨fun r => ?_, fun r => ?_⟩
  · rw [drop_gt h0 r] at h5
    have hf := hl _ (gt_mem h0 r)
    have hb : all.length = x.toNat + 1 := by rw [h2, editTexts_len]; simp only [List.length_take]; omega
    have hg : gt all ((all.length : Int) - 1) = editLast s (l.take x.toNat) := by
      rw [hb, h2, editTexts_gt _ _ _ (by omega) (by simp only [List.length_take]; omega), List.take_take]
      congr 2; omega
    rw [hg]
    have ht := take_gt h0 r
    generalize hT : editLast s (l.take x.toNat) = t at *
    generalize gt l x = e at *
    simp only [editCode] at h5
    refine ⟨h0, r, by omega, by omega, by omega, ⟨by omega, hf⟩, fun u => ?_, fun u => ?_⟩
    · rw [if_pos u] at h5; rw [editApplied_bad (hcode.trans h5) u]; exact ⟨rfl, rfl⟩
    · rw [if_neg u] at h5
      have hm : editMay t.length e := Classical.byContradiction u
      have hm' := editMay_iff.1 hm
      have hml := editMade_len hm
      refine ⟨hm, by omega, by omega, ⟨by omega, by omega, ?_, ?_, ?_⟩, by omega⟩
      · rw [ht, editTexts_snoc, hT, ← h2]
      · rw [ht, editLast_snoc, hT]; omega
      · rw [ht, editLast_snoc, hT, h5, hml]
  · rw [List.drop_of_length_le (by omega)] at h5
    rw [List.take_of_length_le (by omega)] at h2
    rw [editApplied_ok (hcode.trans h5)]
    exact ⟨h2, rfl⟩

theorem ref_EditInvert_hC : Cons Try.prog [(f_ref_EditApplied, ref_EditApplied_ct)] := ⟨ref_EditApplied_con, trivial⟩
theorem ref_EditInvert_con : Con Try.prog f_ref_EditInvert ref_EditInvert_ct := ref_EditInvert_vc ref_EditInvert_hC fun s l hl => by
  simp only [inI_iff, true_and, and_true, ne_eq, Int.reduceEq, not_false_eq_true, Int.toNat_zero, editInvert, editRun, editApplied]
  refine ⟨hl, fun u => ?_, fun u => ?_⟩
  · by_cases q : editsCode s l = 0
    · rw [if_pos q] at u; exact (u rfl).elim
    · rw [if_neg q, if_neg q]; exact ⟨rfl, rfl⟩
  · have q : editsCode s l = 0 := Classical.byContradiction fun q => by rw [if_neg q] at u; exact u q
    simp only [if_pos q]
    obtain ⟨q1, q2, q3⟩ := editsCode_ok q
    have hok := editCode_ok l s q3
    have tl := editTexts_len l s
    refine ⟨by omega, fun i out => -1 ≤ i ∧ i < l.length ∧ (out.length : Int) = l.length - 1 - i ∧ ∀ k : Int, 0 ≤ k → k < out.length → gt out k = gt (editBacks s l) (l.length - 1 - k), fun i _ => (i + 1).toNat, ⟨by omega, by omega, by simp, fun k a b => by simp at b; omega⟩, ?_⟩
    rintro i out ⟨h0, h1, h2, h3⟩
    dsimp only
    refine ⟨fun t => ?_, fun t => ⟨?_, trivial⟩⟩
    · have hm := hok i t h1
      have hg := editBacks_gt l s i t h1
      have hx := editTexts_gt l s i t (by omega)
      rw [hx] at hg ⊢
      generalize editLast s (l.take i.toNat) = tx at *
      generalize gt l i = e at *
      have hm' := editMay_iff.1 hm
      refine ⟨t, h1, t, by omega, by omega, by omega, by omega, by omega, by omega, by omega, ⟨by omega, by omega, by simp; omega, fun k a b => ?_⟩, by omega⟩
      by_cases c : k = out.length
      · rw [c, gt_append_last, show (l.length : Int) - 1 - out.length = i by omega, hg]; rfl
      · rw [gt_append_l a (by simp at b; omega)]; exact h3 k a (by simp at b; omega)
    · have bl := editBacks_len l s
      refine ext_gt (by simp only [List.length_reverse]; omega) fun k a b => ?_
      rw [gt_reverse a (by omega), h3 k a b, bl]

theorem law_EditInverts_hC : Cons Try.prog [(f_edit_Invert, edit_Invert_ct), (f_ref_EditInvert, ref_EditInvert_ct)] := ⟨edit_Invert_con, ref_EditInvert_con, trivial⟩
theorem law_EditInverts_con : Con Try.prog f_law_EditInverts law_EditInverts_ct := law_EditInverts_vc law_EditInverts_hC fun s l h => by
  have hn : (editInvert s l).1.length ≤ 60 := by
    unfold editInvert editRun
    split
    · rename_i q; simp only [List.length_reverse, editBacks_len]; exact (editsCode_ok q).1
    · simp
  refine ⟨h.2.2, h.2.2, fun q => by simp at q, fun _ => ⟨fun i => 0 ≤ i ∧ i ≤ (editInvert s l).1.length, fun i => ((editInvert s l).1.length - i).toNat, ⟨rfl, rfl, by omega, by omega⟩, fun i ⟨h0, h1⟩ => ⟨fun t => ⟨h0, t, h0, t, fun q => absurd ⟨rfl, rfl, rfl⟩ q, fun _ => ⟨?_, rfl, rfl, ⟨by omega, by omega⟩, by dsimp only; omega⟩⟩, fun _ => rfl⟩⟩⟩
  simp only [inI_iff]; omega

end Go.Proofs.Ytcgggoaefceokaa
