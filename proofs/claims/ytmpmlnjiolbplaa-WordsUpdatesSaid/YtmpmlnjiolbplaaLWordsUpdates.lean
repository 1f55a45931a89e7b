/- The contracts of the functions that the law reaches, and that of the law. Conditions: none. -/
import Derived.Test.YtmpmlnjiolbplaaWWordsUpdates
import Derived.Test.YtmpmlnjiolbplaaW7
import Derived.Test.YtmpmlnjiolbplaaW4
set_option linter.unusedVariables false
set_option linter.unusedSimpArgs false
set_option maxRecDepth 100000
namespace Go.Proofs.Ytmpmlnjiolbplaa
open Go.Vc Go.Fu

theorem words_part_hC : Cons Try.prog [] := trivial
theorem words_part_con : Con Try.prog f_words_part words_part_ct := words_part_vc words_part_hC fun c h => by
  exact bo_congr (by unfold partI; omega)

theorem words_Around_hC : Cons Try.prog [(f_words_part, words_part_ct)] := ⟨words_part_con, trivial⟩
theorem words_Around_con : Con Try.prog f_words_Around words_Around_ct := words_Around_vc words_Around_hC fun s lo hi h => by
  obtain ⟨h0, h1, h2, h3⟩ := h
  have h0 : s.length ≤ 140737488351232 := h0
  have pb : ∀ c : UInt8, (bo (partI (c.toNat : Int)) = true) ↔ isP c = true := fun c => by rw [bo_true, part_iff]
  simp only [pb]
  refine ⟨fun x => 0 ≤ x ∧ x ≤ lo ∧ arLo s lo.toNat = arLo s x.toNat, fun x => x.toNat, ⟨h1, Int.le_refl _, rfl⟩, fun x ⟨x0, x1, x2⟩ => ?_⟩
  dsimp only
  refine ⟨fun q => by unfold inI64; omega, fun q => by omega, fun q => by omega, fun _ => trivial, fun ⟨q, hp⟩ => ⟨by unfold inI64; omega, ⟨by omega, by omega, ?_⟩, by omega⟩, fun hn => ?_⟩
  · rw [x2, show x.toNat = (x - 1).toNat + 1 by omega]
    conv => lhs; unfold arLo
    rw [if_pos (by rw [show (((x - 1).toNat : Nat) : Int) = x - 1 by omega]; exact hp)]
  · have e1 : arLo s lo.toNat = x.toNat := by
      rw [x2]
      by_cases z : 0 < x
      · have hp : ¬ isP (gt s (x - 1)) = true := fun q => hn ⟨z, q⟩
        rw [show x.toNat = (x - 1).toNat + 1 by omega]
        unfold arLo
        rw [if_neg (by rw [show (((x - 1).toNat : Nat) : Int) = x - 1 by omega]; exact hp)]
      · rw [show x.toNat = 0 by omega]; rfl
    have hr := runL_le s hi.toNat
    refine ⟨fun y => hi ≤ y ∧ y ≤ s.length ∧ ∀ j : Nat, hi.toNat + j < y.toNat → isP (gt s ((hi.toNat + j : Nat) : Int)) = true, fun y => (s.length - y).toNat, ⟨Int.le_refl _, h3, fun j hj => by omega⟩, fun y ⟨y0, y1, y2⟩ => ?_⟩
    dsimp only
    refine ⟨fun q => by omega, fun q => q, fun _ => trivial, fun ⟨q, hp⟩ => ⟨by unfold inI64; omega, ⟨by omega, by omega, fun j hj => ?_⟩, by omega⟩, fun hn2 => ?_⟩
    · by_cases c : hi.toNat + j = y.toNat
      · rw [c, show ((y.toNat : Nat) : Int) = y by omega]; exact hp
      · exact y2 j (by omega)
    · unfold around arHi
      dsimp only
      have e2 : runL s hi.toNat = y.toNat - hi.toNat := run_eq (by omega) (fun j hj => y2 j (by omega)) (by
        by_cases z : y < s.length
        · right
          rw [show ((hi.toNat + (y.toNat - hi.toNat) : Nat) : Int) = y by omega]
          have := fun q => hn2 ⟨z, q⟩
          simpa using this
        · left; omega)
      rw [e1, e2]
      omega

theorem slices_Equal___int_int__hC : Cons Try.prog [] := trivial
theorem slices_Equal___int_int__con : Con Try.prog f_slices_Equal___int_int_ slices_Equal___int_int__ct := slices_Equal___int_int__vc slices_Equal___int_int__hC fun a b h => by
  simp only [inI_iff, true_and, and_true, ne_eq, Int.reduceEq, not_false_eq_true, Int.toNat_zero, false_bo, true_bo, fitL] at *
  refine ⟨fun q e => q (by rw [e]), fun q => ⟨fun i => 0 ≤ i ∧ i ≤ a.length ∧ ∀ j : Int, 0 ≤ j → j < i → gt a j = gt b j, fun i => (a.length - i).toNat, ⟨by omega, by omega, fun j h1 h2 => by omega⟩, fun i ⟨h0, h1, h2⟩ => ?_⟩⟩
  dsimp only
  refine ⟨fun r => ⟨h0, r, h0, by omega, fun t e => t (by rw [e]), fun t => ⟨by omega, ⟨by omega, by omega, fun j j0 j1 => ?_⟩, by omega⟩⟩, fun r => ?_⟩
  · by_cases e : j = i
    · rw [e]; exact Classical.byContradiction t
    · exact h2 j j0 (by omega)
  · exact ext_gt (by omega) fun j j0 j1 => h2 j j0 (by omega)

theorem words_Update_1_hC : Cons Try.prog [(f_slices_Equal___int_int_, slices_Equal___int_int__ct)] := ⟨slices_Equal___int_int__con, trivial⟩
theorem words_Update_1_con : Con Try.prog f_words_Update_1 words_Update_1_ct := words_Update_1_vc words_Update_1_hC fun a b h => by
  refine ⟨fun _ => ⟨h.1.2, h.2.2⟩, ?_⟩
  rw [Bool.eq_iff_iff, bo_true, bo_true, bo_true]
  exact ⟨fun ⟨p, q⟩ => Prod.ext p q, fun e => by rw [e]; exact ⟨rfl, rfl⟩⟩

theorem edit_Check_hC : Cons Try.prog [] := trivial
theorem edit_Check_con : Con Try.prog f_edit_Check edit_Check_ct := edit_Check_vc edit_Check_hC fun size e ⟨h1, h2, h3, h4⟩ => (by
  simp only [inI_iff, fitS, editFault] at *
  refine ⟨fun h => by omega, fun h => ?_, fun h => ⟨by omega, by omega, fun g => ?_, fun g => ?_⟩⟩
  · rw [if_pos (by omega)]
  · rw [if_neg (by omega), if_pos (by omega)]
  · rw [if_neg (by omega), if_neg (by omega)])

theorem edit_Made_hC : Cons Try.prog [] := trivial
theorem edit_Made_con : Con Try.prog f_edit_Made edit_Made_ct := edit_Made_vc edit_Made_hC fun s e h => by
  have h' := editMay_iff.1 h
  have e1 : List.take ((s.length : Int)).toNat s = s := List.take_of_length_le (by omega)
  simp only [inI_iff, true_and, and_true, ne_eq, Int.reduceEq, not_false_eq_true, Int.toNat_zero, e1, List.drop_zero, List.length_append, List.length_take, List.length_drop, editMade]
  exact ⟨by omega, by omega, by omega, by omega, by omega, by omega, by omega, by omega, by omega⟩
theorem words_Update_con : Con Try.prog f_words_Update words_Update_ct := U.words_Update_con' words_part_con words_Around_con words_Update_1_con edit_Check_con edit_Made_con

theorem ref_letter_hC : Cons Try.prog [] := trivial
theorem ref_letter_con : Con Try.prog f_ref_letter ref_letter_ct := ref_letter_vc ref_letter_hC fun c h => by
  exact bo_congr (by unfold partI; omega)

theorem ref_wordAt_hC : Cons Try.prog [(f_ref_letter, ref_letter_ct)] := ⟨ref_letter_con, trivial⟩
theorem ref_wordAt_con : Con Try.prog f_ref_wordAt ref_wordAt_ct := ref_wordAt_vc ref_wordAt_hC fun s i h => by
  obtain ⟨h1, h2, h3⟩ := h
  have h1 : s.length ≤ 140737488351232 := h1
  have h2 : 0 ≤ i := h2
  have h3 : i ≤ s.length := h3
  obtain ⟨k, rfl⟩ : ∃ k : Nat, i = (k : Int) := ⟨i.toNat, by omega⟩
  have hw : wordAt s (k : Int) = wordOf s k := by unfold wordAt; rw [Int.toNat_natCast]
  rw [hw]
  refine ⟨fun _ => by unfold inI64; omega, fun _ => by omega, fun _ => by omega, fun _ => trivial, fun ⟨a, b⟩ => ?_, fun c => ?_⟩
  · refine (wordOf_shut fun q => ?_).symm
    rcases q with q | q
    · omega
    · exact (part_not _).1 q (bo_true.1 b)
  have ho : opens s k := by
    by_cases z : k = 0
    · exact .inl z
    · exact .inr ((part_not _).2 fun q => c ⟨by omega, bo_true.2 q⟩)
  refine ⟨fun e => k ≤ e ∧ e ≤ s.length ∧ ∀ j : Int, k ≤ j → j < e → isP (gt s j) = true, fun e => (s.length - e).toNat, ⟨by omega, by omega, fun j a b => by omega⟩, fun e ⟨e0, e1, e2⟩ => ?_⟩
  dsimp only
  refine ⟨fun _ => by omega, id, fun _ => trivial, fun ⟨a, b⟩ => ?_, fun c => ?_⟩
  · have hp : isP (gt s e) = true := (part_iff _).2 (bo_true.1 b)
    refine ⟨by unfold inI64; omega, ⟨by omega, by omega, fun j j0 j1 => ?_⟩, by omega⟩
    by_cases q : j = e
    · rw [q]; exact hp
    · exact e2 j j0 (by omega)
  · have hr : runL s k = (e - k).toNat := run_eq (by omega) (fun j hj => e2 _ (by omega) (by omega)) (by
      by_cases z : e = s.length
      · left; omega
      · right
        rw [show ((k + (e - k).toNat : Nat) : Int) = e by omega]
        exact (part_not _).2 fun q => c ⟨by omega, bo_true.2 q⟩)
    rw [wordOf_open ho, hr]
    refine ⟨by unfold inI64; omega, fun q => by rw [if_neg (by omega)], fun q => ⟨h2, e0, e1, ?_⟩⟩
    rw [if_pos (by omega), Int.toNat_natCast, List.drop_take]
    congr 1; omega
theorem ref_WordsAll_con : Con Try.prog f_ref_WordsAll ref_WordsAll_ct := R.ref_WordsAll_con' ref_wordAt_con

theorem ref_SameWords_hC : Cons Try.prog [] := trivial
theorem ref_SameWords_con : Con Try.prog f_ref_SameWords ref_SameWords_ct := ref_SameWords_vc ref_SameWords_hC fun a b h => by
  obtain ⟨⟨h1, h2⟩, h3, h4⟩ := h
  have h1 : a.length ≤ 140737488351232 := h1
  simp only [inI_iff, true_and, and_true, ne_eq, Int.reduceEq, not_false_eq_true, Int.toNat_zero, false_bo, true_bo] at *
  refine ⟨fun q e => q (by rw [e]), fun q => ⟨fun i => 0 ≤ i ∧ i ≤ a.length ∧ ∀ j : Int, 0 ≤ j → j < i → gt a j = gt b j, fun i => (a.length - i).toNat, ⟨by omega, by omega, fun j h1 h2 => by omega⟩, fun i ⟨h0, hi, hj⟩ => ?_⟩⟩
  dsimp only
  refine ⟨fun r => ⟨h0, r, h0, by omega, fun _ => h0, fun _ => r, fun _ => h0, fun _ => by omega, fun t e => ?_, fun t => ⟨h0, r, ?_⟩⟩, fun r => ?_⟩
  · rw [e] at t; rcases t with t | t <;> exact t rfl
  · have e1 : (gt a i).1 = (gt b i).1 := Classical.byContradiction fun c => t (.inl c)
    have e2 : ((gt a i).2.length : Int) = (gt b i).2.length := Classical.byContradiction fun c => t (.inr c)
    have hf : (gt a i).2.length ≤ 140737488351232 := (h2 _ (gt_mem h0 r)).2
    refine ⟨fun x => 0 ≤ x ∧ x ≤ (gt a i).2.length ∧ ∀ j : Int, 0 ≤ j → j < x → gt (gt a i).2 j = gt (gt b i).2 j, fun x => ((gt a i).2.length - x).toNat, ⟨by omega, by omega, fun j h1 h2 => by omega⟩, fun x ⟨x0, x1, x2⟩ => ?_⟩
    dsimp only
    refine ⟨fun r' => ⟨h0, r, x0, r', h0, by omega, x0, by omega, fun t e => t (by rw [e]), fun t => ⟨by omega, ⟨by omega, by omega, fun j j0 j1 => ?_⟩, by omega⟩⟩, fun r' => ⟨by omega, ⟨by omega, by omega, fun j j0 j1 => ?_⟩, by omega⟩⟩
    · by_cases e : j = x
      · rw [e]; exact Classical.byContradiction t
      · exact x2 j j0 (by omega)
    · by_cases e : j = i
      · rw [e]
        exact Prod.ext e1 (ext_gt (by omega) fun k k0 k1 => x2 k k0 (by omega))
      · exact hj j j0 (by omega)
  · exact ext_gt (by omega) fun j j0 j1 => hj j j0 (by omega)

theorem ref_EditFault_hC : Cons Try.prog [] := trivial
theorem ref_EditFault_con : Con Try.prog f_ref_EditFault ref_EditFault_ct := ref_EditFault_vc ref_EditFault_hC fun size e ⟨h1, h2, h3, h4⟩ => (by
  simp only [inI_iff, fitS, editFault] at *
  refine ⟨fun h => by omega, fun h => ?_, fun h => ⟨by omega, by omega, fun g => ?_, fun g => ?_⟩⟩
  · rw [if_pos (by omega)]
  · rw [if_neg (by omega), if_pos (by omega)]
  · rw [if_neg (by omega), if_neg (by omega)])

theorem ref_editMade_hC : Cons Try.prog [] := trivial
theorem ref_editMade_con : Con Try.prog f_ref_editMade ref_editMade_ct := ref_editMade_vc ref_editMade_hC fun s e h => by
  have h' := editMay_iff.1 h
  simp only [inI_iff, true_and, and_true, ne_eq, Int.reduceEq, not_false_eq_true, Int.toNat_zero]
  obtain ⟨a, c, p⟩ := e
  dsimp only at *
  refine ⟨fun out i => 0 ≤ i ∧ i ≤ s.length + 1 ∧ out = if i ≤ a then s.take i.toNat else s.take a.toNat ++ p ++ (s.take i.toNat).drop (a + c).toNat, fun _ i => (s.length + 1 - i).toNat, ⟨by omega, by omega, by rw [if_pos (by omega)]; simp⟩, ?_⟩
  rintro out i ⟨h0, h1, h2⟩
  dsimp only
  have hl : out.length ≤ 1300 := by
    rw [h2]; split <;> (try simp only [List.length_append, List.length_take, List.length_drop]) <;> omega
  refine ⟨fun t => ⟨fun _ => by omega, fun _ => by omega, fun _ => by omega, fun _ => by omega, fun _ => by omega, fun _ => by omega, fun u => ?_, by omega, ⟨by omega, by omega, ?_⟩, by omega⟩, fun t => ?_⟩
  · by_cases e : i = a
    · rw [iteP_pos e]; simp only [List.length_append, List.length_take, List.length_drop]; omega
    · rw [iteP_neg e]; simp only [List.length_append, List.length_take, List.length_drop]; omega
  · by_cases u : i < s.length ∧ (i < a ∨ a + c ≤ i)
    · rw [iteP_pos u, sub_one h0 u.1]
      by_cases e : i = a
      · rw [iteP_pos e, if_neg (by omega), h2, if_pos (by omega), take_gt h0 u.1, ← e]
        have : ((List.take i.toNat s ++ [gt s i]).drop (i + c).toNat) = [gt s i] := by
          rw [show (i + c).toNat = i.toNat by omega]
          exact List.drop_left' (by simp only [List.length_take]; omega)
        rw [this]
      · rw [iteP_neg e, h2]
        by_cases q : i < a
        · rw [if_pos (by omega), if_pos (by omega), take_gt h0 u.1]
        · rw [if_neg (by omega), if_neg (by omega), take_gt h0 u.1, List.drop_append_of_le_length (by simp only [List.length_take]; omega), List.append_assoc]
    · rw [iteP_neg u]
      by_cases e : i = a
      · rw [iteP_pos e, if_neg (by omega), h2, if_pos (by omega)]
        have : (List.take (i + 1).toNat s).drop (a + c).toNat = [] := List.drop_of_length_le (by simp only [List.length_take]; omega)
        rw [this, ← e]; simp
      · rw [iteP_neg e, h2, if_neg (by omega), if_neg (by omega)]
        by_cases q : i < s.length
        · rw [List.drop_of_length_le (by simp only [List.length_take]; omega), List.drop_of_length_le (by simp only [List.length_take]; omega)]
        · rw [List.take_of_length_le (i := i.toNat) (by omega), List.take_of_length_le (i := (i + 1).toNat) (by omega)]
  · rw [h2, if_neg (by omega), List.take_of_length_le (l := s) (i := i.toNat) (by omega)]; rfl

theorem ref_WordsUpdate_hC : Cons Try.prog [(f_ref_WordsAll, ref_WordsAll_ct), (f_ref_SameWords, ref_SameWords_ct), (f_ref_EditFault, ref_EditFault_ct), (f_ref_editMade, ref_editMade_ct)] := ⟨ref_WordsAll_con, ref_SameWords_con, ref_EditFault_con, ref_editMade_con, trivial⟩
theorem ref_WordsUpdate_con : Con Try.prog f_ref_WordsUpdate ref_WordsUpdate_ct := ref_WordsUpdate_vc ref_WordsUpdate_hC fun s l e h => by
  obtain ⟨h1, h2, h3⟩ := h
  have h1' : s.length ≤ 140737488351232 := h1
  have hu : wordsUpdate s l (e.1, e.2.1, e.2.2) = wordsUpdate s l e := rfl
  simp only [inI_iff, true_and, and_true, ne_eq, Int.reduceEq, not_false_eq_true, Int.toNat_zero, hu, prod_eta] at *
  have hw := wordsAll_fit (s := s)
  by_cases c : 600 < s.length
  · have e1 : wordsAll s = ([], 1) := by unfold wordsAll; rw [if_pos c]
    have e2 : wordsUpdate s l e = ([], 1) := by unfold wordsUpdate; rw [if_pos c]
    rw [e1, e2]
    exact ⟨h1, fun _ => ⟨rfl, rfl⟩, fun q => absurd (show (1 : Int) ≠ 0 by omega) q⟩
  have e1 : wordsAll s = (WL (tabOf s), 0) := by unfold wordsAll; rw [if_neg c]
  refine ⟨h1, fun q => absurd (by rw [e1]) q, fun _ => ⟨⟨hw, h2⟩, fun q => ?_, fun q => ⟨⟨by (try unfold inI64); omega, h3⟩, fun q2 => ?_, fun q2 => ?_⟩⟩⟩
  · have e2 : wordsUpdate s l e = ([], 4) := by
      unfold wordsUpdate
      rw [if_neg c, if_pos]
      rw [e1] at q
      intro e3
      exact q (by rw [e3, bo_true])
    rw [e2]; exact ⟨rfl, rfl⟩
  all_goals
    have hl : l = WL (tabOf s) := by
      rw [e1] at q
      have := Classical.byContradiction q
      rw [bo_true] at this; exact this.symm
  · have e2 : wordsUpdate s l e = ([], editFault s.length e) := by
      unfold wordsUpdate
      rw [if_neg c, if_neg (by simpa using hl), if_pos q2]
    rw [e2]; exact ⟨rfl, rfl⟩
  · have hm : editMay s.length e := Classical.byContradiction q2
    have hml := editMade_len hm
    have hi := editMay_iff.1 hm
    have e2 : wordsUpdate s l e = (WL (tabOf (editMade s e)), 0) := by
      unfold wordsUpdate
      rw [if_neg c, if_neg (by simpa using hl), if_neg q2]
    have e3 : wordsAll (editMade s e) = (WL (tabOf (editMade s e)), 0) := by unfold wordsAll; rw [if_neg (by omega)]
    rw [e2, e3]
    exact ⟨hm, by show (editMade s e).length ≤ _; omega, rfl, rfl⟩

theorem law_WordsUpdates_hC : Cons Try.prog [(f_words_Update, words_Update_ct), (f_ref_WordsUpdate, ref_WordsUpdate_ct), (f_ref_SameWords, ref_SameWords_ct)] := ⟨words_Update_con, ref_WordsUpdate_con, ref_SameWords_con, trivial⟩
theorem law_WordsUpdates_con : Con Try.prog f_law_WordsUpdates law_WordsUpdates_ct := law_WordsUpdates_vc law_WordsUpdates_hC fun s l e h => by
  obtain ⟨h1, ⟨h2, h3⟩, h4, h5, h6⟩ := h
  have hl : wtFit l := ⟨h2, fun x hx => ⟨(h3 x hx).1, (h3 x hx).2.1⟩⟩
  have he : editFits (e.1, e.2.1, e.2.2) := ⟨h4, h5, h6⟩
  have hs : fitS s := h1
  have hf : wtFit (wordsUpdate s l (e.1, e.2.1, e.2.2)).1 := wordsUpdate_fit
  exact ⟨⟨hs, hl, he⟩, ⟨hs, hl, he⟩, ⟨hf, hf⟩, by simp⟩

end Go.Proofs.Ytmpmlnjiolbplaa
