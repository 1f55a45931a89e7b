/- The contracts of the functions that the law reaches, and that of the law. Conditions: none. -/
import Derived.Test.YtmknkkafindicaaWLinesUpdates
set_option linter.unusedVariables false
set_option linter.unusedSimpArgs false
set_option maxRecDepth 100000
namespace Go.Proofs.Ytmknkkafindicaa
open Go.Vc Go.Fu

theorem lines_may_hC : Cons Try.prog [] := trivial
theorem lines_may_con : Con Try.prog f_lines_may lines_may_ct := lines_may_vc lines_may_hC fun l hl => by
  simp only [inI_iff, true_and, and_true, ne_eq, Int.reduceEq, not_false_eq_true, Int.toNat_zero, fitL, false_bo, bo_eq_bo, startsOk] at *
  refine ⟨fun x => 0 ≤ x ∧ x ≤ l.length ∧ ∀ i, 0 < i → i < x → gt l (i - 1) < gt l i, fun x => (l.length - x).toNat, ⟨by omega, by omega, fun i a b => by omega⟩, ?_⟩
  rintro x ⟨h0, h1, h2⟩
  dsimp only
  refine ⟨fun t => ⟨h0, t, fun _ => by omega, fun _ => by omega, fun _ => by omega, fun u q => ?_, fun u => ⟨by omega, ⟨by omega, by omega, fun i a b => ?_⟩, by omega⟩⟩, fun t => ⟨fun _ => by omega, fun _ => by omega, fun _ => by omega, fun _ => by omega, fun _ => by omega, ?_⟩⟩
  · have := q.2.2.1 x u.1 t; omega
  · by_cases e : i = x
    · rw [e]; omega
    · exact h2 i a (by omega)
  · have e : ¬ l = [] ↔ 0 < (l.length : Int) := by rw [← ne_eq, ← List.length_pos_iff]; omega
    rw [e]
    exact ⟨fun ⟨⟨a, b⟩, c⟩ => ⟨a, b, fun i p q => h2 i p (by omega), c⟩, fun ⟨a, b, _, c⟩ => ⟨⟨a, b⟩, c⟩⟩

theorem edit_Check_hC : Cons Try.prog [] := trivial
theorem edit_Check_con : Con Try.prog f_edit_Check edit_Check_ct := edit_Check_vc edit_Check_hC fun size e ⟨h1, h2, h3, h4⟩ => (by
  simp only [inI_iff, fitS, editFault] at *
  refine ⟨fun h => by omega, fun h => ?_, fun h => ⟨by omega, by omega, fun g => ?_, fun g => ?_⟩⟩
  · rw [if_pos (by omega)]
  · rw [if_neg (by omega), if_pos (by omega)]
  · rw [if_neg (by omega), if_neg (by omega)])

theorem sort_SearchInts_hC : Cons Try.prog [] := trivial
theorem sort_SearchInts_con : Con Try.prog f_sort_SearchInts sort_SearchInts_ct := sort_SearchInts_vc sort_SearchInts_hC fun l n ⟨hl, hp⟩ => by
  simp only [inI_iff, true_and, and_true, ne_eq, Int.reduceEq, not_false_eq_true, Int.toNat_zero, fitL, riseOk] at *
  refine ⟨fun i j f g => f = l ∧ g = n ∧ 0 ≤ i ∧ i ≤ j ∧ j ≤ l.length ∧ (∀ k, 0 ≤ k → k < i → gt l k < n) ∧ (∀ k, j ≤ k → k < l.length → n ≤ gt l k), fun i j _ _ => (j - i).toNat, ⟨rfl, rfl, by omega, by omega, by omega, fun k a b => by omega, fun k a b => by omega⟩, ?_⟩
  rintro i j f g ⟨rfl, rfl, h0, h1, h2, h3, h4⟩
  dsimp only
  refine ⟨fun t => ?_, fun t => ?_⟩
  · have hu := half_u64 (a := i + j) (by omega) (by omega)
    simp only [Int.toNat_one] at hu ⊢
    rw [hu]
    have hm : i ≤ (i + j) / 2 ∧ (i + j) / 2 < j := by omega
    generalize (i + j) / 2 = h at *
    refine ⟨by omega, by omega, by omega, by omega, by omega, fun u => ⟨by omega, ⟨by trivial, by trivial, by omega, by omega, h2, fun k a b => ?_, h4⟩, by omega⟩, fun u => ⟨⟨by trivial, by trivial, h0, by omega, by omega, h3, fun k a b => ?_⟩, by omega⟩⟩
    · by_cases e : k = h
      · rw [e]; omega
      · have := pair_lt hp (i := k) (j := h) a (by omega) (by omega); omega
    · by_cases e : k = h
      · rw [e]; omega
      · have := pair_lt hp (i := h) (j := k) (by omega) (by omega) b; omega
  · exact (searchAt_eq h0 (by omega) h3 fun t => h4 i (by omega) t).symm

theorem lines_Updated_hC : Cons Try.prog [(f_sort_SearchInts, sort_SearchInts_ct)] := ⟨sort_SearchInts_con, trivial⟩
theorem lines_Updated_con : Con Try.prog f_lines_Updated lines_Updated_ct := lines_Updated_vc lines_Updated_hC fun l e ⟨hs, hl, hu⟩ => by
  have hr : riseOk l := starts_pair hs.2.2.1
  have ln := starts_len hs
  have et : List.take ((l.length : Int)).toNat l = l := List.take_of_length_le (by omega)
  have b1 := search_bd l (e.1 + 1)
  have b2 := search_bd l (e.1 + e.2.1 + 1)
  simp only [inI_iff, true_and, and_true, ne_eq, Int.reduceEq, not_false_eq_true, Int.toNat_zero, updPre, List.drop_zero, et, search_take, search_drop, byte10] at *
  have lt := (List.takeWhile_sublist (p := fun y => decide (y ≤ e.1)) (l := l)).length_le
  have ld := (List.dropWhile_sublist (p := fun y => decide (y ≤ e.1 + e.2.1)) (l := l)).length_le
  have md : ∀ x ∈ l.dropWhile (fun y => decide (y ≤ e.1 + e.2.1)), 0 ≤ x ∧ x ≤ 600 := fun x hx => starts_mem hs ((List.dropWhile_sublist _).mem hx)
  have eu : linesUpdated l e = (l.takeWhile fun x => decide (x ≤ e.1)) ++ startsFrom e.1 e.2.2 ++ (l.dropWhile fun x => decide (x ≤ e.1 + e.2.1)).map (· + ((e.2.2.length : Int) - e.2.1)) := rfl
  generalize (l.takeWhile fun y => decide (y ≤ e.1)) = tw at *
  generalize (l.dropWhile fun y => decide (y ≤ e.1 + e.2.1)) = dw at *
  refine ⟨by omega, ⟨hl, hr⟩, by omega, by omega, ⟨hl, hr⟩, by omega, by omega, by omega, by omega, fun x out => 0 ≤ x ∧ x ≤ e.2.2.length ∧ out.length ≤ tw.length + x ∧ out ++ startsFrom (e.1 + x) (e.2.2.drop x.toNat) = tw ++ startsFrom e.1 e.2.2, fun x _ => (e.2.2.length - x).toNat, ⟨by omega, by omega, by omega, by simp⟩, ?_⟩
  rintro x out ⟨h0, h1, h2, h3⟩
  dsimp only
  refine ⟨fun t => ⟨h0, t, fun u => ?_, fun u => ?_⟩, fun t => ⟨by omega, by omega, by omega, ?_⟩⟩
  · rw [drop_gt h0 t] at h3
    simp only [startsFrom] at h3
    rw [if_pos u, show e.1 + x + 1 = e.1 + (x + 1) by omega] at h3
    refine ⟨by omega, by omega, by omega, by omega, ⟨by omega, by omega, by simp; omega, ?_⟩, by omega⟩
    rw [show e.1 + x + 1 = e.1 + (x + 1) by omega]
    simpa using h3
  · rw [drop_gt h0 t] at h3
    simp only [startsFrom] at h3
    rw [if_neg u, show e.1 + x + 1 = e.1 + (x + 1) by omega] at h3
    exact ⟨by omega, ⟨by omega, by omega, by omega, h3⟩, by omega⟩
  · rw [List.drop_of_length_le (by omega)] at h3
    simp only [startsFrom, List.append_nil] at h3
    refine ⟨fun x o => 0 ≤ x ∧ x ≤ dw.length ∧ o.length = out.length + x ∧ o ++ (dw.drop x.toNat).map (· + ((e.2.2.length : Int) - e.2.1)) = linesUpdated l e, fun x _ => (dw.length - x).toNat, ⟨by omega, by omega, by omega, ?_⟩, ?_⟩
    · rw [eu, h3]; simp
    · rintro y o ⟨g0, g1, g2, g3⟩
      dsimp only
      refine ⟨fun u => ?_, fun u => ?_⟩
      · have := md _ (gt_mem g0 u)
        rw [drop_gt g0 u] at g3
        refine ⟨g0, u, by omega, by omega, by omega, by omega, ⟨by omega, by omega, by simp; omega, ?_⟩, by omega⟩
        rw [show gt dw y + (e.2.2.length : Int) - e.2.1 = gt dw y + ((e.2.2.length : Int) - e.2.1) by omega]
        simpa using g3
      · rw [List.drop_of_length_le (by omega)] at g3
        simpa using g3

theorem lines_Update_hC : Cons Try.prog [(f_lines_may, lines_may_ct), (f_edit_Check, edit_Check_ct), (f_lines_Updated, lines_Updated_ct)] := ⟨lines_may_con, edit_Check_con, lines_Updated_con, trivial⟩
theorem lines_Update_con : Con Try.prog f_lines_Update lines_Update_ct := lines_Update_vc lines_Update_hC fun l size e ⟨hl, hs, he⟩ => by
  have hl' : l.length ≤ 140737488351232 := hl
  simp only [inI_iff, true_and, and_true, ne_eq, Int.reduceEq, not_false_eq_true, Int.toNat_zero, prod_eta, bo_true, Classical.not_not, linesUpdate] at *
  refine ⟨hl, fun _ => by omega, fun c => ?_, fun _ => by omega, fun c => ?_, fun c => ⟨⟨hs, he⟩, fun q => ?_, fun q => ?_⟩⟩
  · have := List.length_pos_iff.2 c.1; omega
  · rw [if_pos c]; exact ⟨rfl, rfl⟩
  · rw [if_neg c, if_pos q]; exact ⟨rfl, rfl⟩
  · have m := editMay_iff.1 q
    rw [if_neg c, if_neg (by rw [q]; simp)]
    exact ⟨⟨Classical.byContradiction fun d => c (.inl d), hl, by omega, by omega, by omega, by omega, by omega⟩, rfl, rfl⟩

theorem ref_startsMay_hC : Cons Try.prog [] := trivial
theorem ref_startsMay_con : Con Try.prog f_ref_startsMay ref_startsMay_ct := ref_startsMay_vc ref_startsMay_hC fun l hl => by
  simp only [inI_iff, true_and, and_true, ne_eq, Int.reduceEq, not_false_eq_true, Int.toNat_zero, fitL, false_bo, true_bo, startsOk] at *
  have e : ¬ l = [] ↔ 0 < (l.length : Int) := by rw [← ne_eq, ← List.length_pos_iff]; omega
  rw [e]
  refine ⟨fun _ => by omega, fun _ => by omega, fun q ⟨a, b, _, _⟩ => by rcases q with q | q <;> omega, fun q => ⟨fun x => 1 ≤ x ∧ x ≤ l.length ∧ ∀ i, 0 < i → i < x → gt l (i - 1) < gt l i ∧ gt l i ≤ 600, fun x => (l.length - x).toNat, ⟨by omega, by omega, fun i a b => by omega⟩, ?_⟩⟩
  rintro x ⟨h0, h1, h2⟩
  dsimp only
  refine ⟨fun t => ⟨by omega, t, by omega, by omega, by omega, fun _ => by omega, fun _ => t, fun u q => ?_, fun u => ⟨by omega, ⟨by omega, by omega, fun i a b => ?_⟩, by omega⟩⟩, fun t => ⟨by omega, by omega, fun i a b => (h2 i a (by omega)).1, ?_⟩⟩
  · have c1 := q.2.2.1 x (by omega) t
    by_cases c : x = l.length - 1
    · have := q.2.2.2; rw [← c] at this; omega
    · have := starts_lt q.2.2.1 (i := x) (j := l.length - 1) (by omega) (by omega) (by omega)
      have := q.2.2.2; omega
  · by_cases e : i = x
    · rw [e]; omega
    · exact h2 i a (by omega)
  · by_cases c : (l.length : Int) = 1
    · rw [show (l.length : Int) - 1 = 0 by omega]
      have : gt l 0 = 0 := Classical.byContradiction fun c => q (.inr c)
      omega
    · exact (h2 _ (by omega) (by omega)).2

theorem ref_EditFault_hC : Cons Try.prog [] := trivial
theorem ref_EditFault_con : Con Try.prog f_ref_EditFault ref_EditFault_ct := ref_EditFault_vc ref_EditFault_hC fun size e ⟨h1, h2, h3, h4⟩ => (by
  simp only [inI_iff, fitS, editFault] at *
  refine ⟨fun h => by omega, fun h => ?_, fun h => ⟨by omega, by omega, fun g => ?_, fun g => ?_⟩⟩
  · rw [if_pos (by omega)]
  · rw [if_neg (by omega), if_pos (by omega)]
  · rw [if_neg (by omega), if_neg (by omega)])

theorem ref_cutLines_hC : Cons Try.prog [] := trivial
theorem ref_cutLines_con : Con Try.prog f_ref_cutLines ref_cutLines_ct := ref_cutLines_vc ref_cutLines_hC fun s hs => by
  simp only [inI_iff, true_and, and_true, ne_eq, Int.reduceEq, not_false_eq_true, Int.toNat_zero]
  refine ⟨fun i out => 0 ≤ i ∧ i ≤ s.length ∧ out ≠ [] ∧ out.length ≤ i + 1 ∧ (out.getLastD []).length ≤ i ∧ cutLines s = (s.drop i.toNat).foldl cutStep out, fun i _ => (s.length - i).toNat, ⟨by omega, by omega, by simp, by simp, by simp, by simp [cutLines]⟩, fun i out ⟨h0, h1, h2, h3, h4, h5⟩ => ?_⟩
  dsimp only
  refine ⟨fun q => ?_, fun q => ?_⟩
  · have hl : 0 < out.length := List.length_pos_iff.2 h2
    rw [drop_gt h0 q, List.foldl_cons] at h5
    refine ⟨h0, q, fun r => ?_, fun r => ?_⟩
    · have e : cutStep out (gt s i) = out ++ [[]] := by simp [cutStep, byte10.1 r]
      rw [e] at h5
      exact ⟨by omega, by omega, ⟨by omega, by omega, by simp, by simp; omega, by simp; omega, h5⟩, by omega⟩
    · have e : cutStep out (gt s i) = out.dropLast ++ [out.getLastD [] ++ [gt s i]] := by simp only [cutStep]; rw [if_neg fun e => r (byte10.2 e)]
      rw [e] at h5
      have e2 : (((out.length : Int) - 1).toNat) = out.length - 1 := by omega
      rw [sub_one h0 q, gt_last (d := []) h2, e2, set_last _ _ h2]
      refine ⟨by omega, by omega, by omega, by omega, by omega, by omega, by omega, by simp only [List.length_cons, List.length_nil]; omega, by omega, by omega, by omega, ⟨by omega, by omega, by simp, by simp; omega, by rw [List.getLastD_concat]; simp only [List.length_append, List.length_cons, List.length_nil]; omega, h5⟩, by omega⟩
  · rw [List.drop_of_length_le (by omega)] at h5
    simpa using h5.symm

theorem ref_LinesStarts_hC : Cons Try.prog [(f_ref_cutLines, ref_cutLines_ct)] := ⟨ref_cutLines_con, trivial⟩
theorem ref_LinesStarts_con : Con Try.prog f_ref_LinesStarts ref_LinesStarts_ct := ref_LinesStarts_vc ref_LinesStarts_hC fun s hs => by
  simp only [inI_iff, true_and, and_true, ne_eq, Int.reduceEq, not_false_eq_true, Int.toNat_zero, linesStarts]
  have hc := cutLines_len s
  refine ⟨fun q => by rw [if_pos (by omega)]; exact ⟨rfl, rfl⟩, fun q => ⟨by omega, ?_⟩⟩
  rw [if_neg (by omega)]
  refine ⟨fun a x out => 0 ≤ x ∧ x ≤ (cutLines s).length ∧ 0 ≤ a ∧ a ≤ x * 601 ∧ out.length = x ∧ out ++ sumStarts a ((cutLines s).drop x.toNat) = startsOf s, fun _ x _ => ((cutLines s).length - x).toNat, ⟨by omega, by omega, by omega, by omega, rfl, by simpa using sum_cut s⟩, fun a x out ⟨h0, h1, h2, h3, h4, h5⟩ => ?_⟩
  dsimp only
  refine ⟨fun r => ?_, fun r => ?_⟩
  · rw [drop_gt h0 r] at h5
    simp only [sumStarts] at h5
    have hm := hc.2 _ (gt_mem h0 r)
    refine ⟨h0, r, by omega, by omega, by omega, by omega, ⟨by omega, by omega, by omega, by omega, by simp; omega, ?_⟩, by omega⟩
    rw [← Int.add_assoc]
    simpa using h5
  · rw [List.drop_of_length_le (by omega)] at h5
    exact ⟨by simpa [sumStarts] using h5, rfl⟩

theorem ref_editMade_hC : Cons Try.prog [] := trivial
theorem ref_editMade_con : Con Try.prog f_ref_editMade ref_editMade_ct := ref_editMade_vc ref_editMade_hC fun s e h => by
  have h' := editMay_iff.1 h
  simp only [inI_iff, true_and, and_true, ne_eq, Int.reduceEq, not_false_eq_true, Int.toNat_zero]
  obtain ⟨a, c, p⟩ := e
  dsimp only at *
  refine ⟨fun out i => 0 ≤ i ∧ i ≤ s.length + 1 ∧ out = if i ≤ a then s.take i.toNat else s.take a.toNat ++ p ++ (s.take i.toNat).drop (a + c).toNat, fun _ i => (s.length + 1 - i).toNat, ⟨by omega, by omega, by rw [if_pos (by omega)]; simp⟩, ?_⟩
  rintro out i ⟨h0, h1, h2⟩
  dsimp only
  have hl : out.length ≤ 1300 := by
    rw [h2]; split <;> (try simp only [List.length_append, List.length_take, List.length_drop]) <;> omega
  refine ⟨fun t => ⟨fun _ => by omega, fun _ => by omega, fun _ => by omega, fun _ => by omega, fun _ => by omega, fun _ => by omega, fun u => ?_, by omega, ⟨by omega, by omega, ?_⟩, by omega⟩, fun t => ?_⟩
  · by_cases e : i = a
    · rw [iteP_pos e]; simp only [List.length_append, List.length_take, List.length_drop]; omega
    · rw [iteP_neg e]; simp only [List.length_append, List.length_take, List.length_drop]; omega
  · by_cases u : i < s.length ∧ (i < a ∨ a + c ≤ i)
    · rw [iteP_pos u, sub_one h0 u.1]
      by_cases e : i = a
      · rw [iteP_pos e, if_neg (by omega), h2, if_pos (by omega), take_gt h0 u.1, ← e]
        have : ((List.take i.toNat s ++ [gt s i]).drop (i + c).toNat) = [gt s i] := by
          rw [show (i + c).toNat = i.toNat by omega]
          exact List.drop_left' (by simp only [List.length_take]; omega)
        rw [this]
      · rw [iteP_neg e, h2]
        by_cases q : i < a
        · rw [if_pos (by omega), if_pos (by omega), take_gt h0 u.1]
        · rw [if_neg (by omega), if_neg (by omega), take_gt h0 u.1, List.drop_append_of_le_length (by simp only [List.length_take]; omega), List.append_assoc]
    · rw [iteP_neg u]
      by_cases e : i = a
      · rw [iteP_pos e, if_neg (by omega), h2, if_pos (by omega)]
        have : (List.take (i + 1).toNat s).drop (a + c).toNat = [] := List.drop_of_length_le (by simp only [List.length_take]; omega)
        rw [this, ← e]; simp
      · rw [iteP_neg e, h2, if_neg (by omega), if_neg (by omega)]
        by_cases q : i < s.length
        · rw [List.drop_of_length_le (by simp only [List.length_take]; omega), List.drop_of_length_le (by simp only [List.length_take]; omega)]
        · rw [List.take_of_length_le (i := i.toNat) (by omega), List.take_of_length_le (i := (i + 1).toNat) (by omega)]
  · rw [h2, if_neg (by omega), List.take_of_length_le (l := s) (i := i.toNat) (by omega)]; rfl

theorem ref_LinesUpdate_hC : Cons Try.prog [(f_ref_startsMay, ref_startsMay_ct), (f_ref_EditFault, ref_EditFault_ct), (f_ref_LinesStarts, ref_LinesStarts_ct), (f_ref_editMade, ref_editMade_ct)] := ⟨ref_startsMay_con, ref_EditFault_con, ref_LinesStarts_con, ref_editMade_con, trivial⟩
theorem ref_LinesUpdate_con : Con Try.prog f_ref_LinesUpdate ref_LinesUpdate_ct := ref_LinesUpdate_vc ref_LinesUpdate_hC fun l size e ⟨hl, hs, he⟩ => by
  have hl' : l.length ≤ 140737488351232 := hl
  simp only [inI_iff, true_and, and_true, ne_eq, Int.reduceEq, not_false_eq_true, Int.toNat_zero, prod_eta, bo_true, Classical.not_not, linesUpdate] at *
  refine ⟨hl, fun _ => by omega, fun c => ?_, fun _ => by omega, fun c => ?_, fun c => ⟨⟨hs, he⟩, fun q => ?_, fun q => ?_⟩⟩
  · have := List.length_pos_iff.2 c.1; omega
  · rw [if_pos c]; exact ⟨rfl, rfl⟩
  · rw [if_neg c, if_pos q]; exact ⟨rfl, rfl⟩
  have m := editMay_iff.1 q
  have ok : startsOk l := Classical.byContradiction fun d => c (.inl d)
  have hz : gt l ((l.length : Int) - 1) ≤ size := by omega
  rw [if_neg c, if_neg (by rw [q]; simp)]
  refine ⟨fun text i => 0 ≤ i ∧ i ≤ size ∧ text = textOf l i, fun _ i => (size - i).toNat, ⟨by omega, by omega, by simp [textOf]⟩, ?_⟩
  rintro text i ⟨h0, h1, rfl⟩
  dsimp only
  have tl := textOf_len (l := l) h0
  refine ⟨fun t => ⟨fun feed x => 0 ≤ x ∧ x ≤ l.length ∧ (feed = true ↔ ∃ j : Int, 0 ≤ j ∧ j < x ∧ gt l j = i + 1), fun _ x => (l.length - x).toNat, ⟨by omega, by omega, by simp; omega⟩, ?_⟩, fun t => ?_⟩
  · rintro feed x ⟨g0, g1, g2⟩
    dsimp only
    have mem : ¬ x < (l.length : Int) → (feed = true ↔ i + 1 ∈ l) := fun u => by
      rw [g2]
      constructor
      · rintro ⟨j, a, b, c⟩; rw [← c]; exact gt_mem a (by omega)
      · intro h; obtain ⟨j, a, b, c⟩ := mem_gt h; exact ⟨j, a, by omega, c⟩
    refine ⟨fun u => ⟨g0, u, fun _ => by omega, by omega, ⟨by omega, by omega, ?_⟩, by omega⟩, fun u => ⟨fun v => ⟨by omega, by omega, ⟨by omega, by omega, ?_⟩, by omega⟩, fun v => ⟨by omega, by omega, ⟨by omega, by omega, ?_⟩, by omega⟩⟩⟩
    · rw [bo_true, g2]
      constructor
      · rintro (⟨j, a, b, c⟩ | c)
        · exact ⟨j, a, by omega, c⟩
        · exact ⟨x, g0, by omega, c⟩
      · rintro ⟨j, a, b, c⟩
        by_cases z : j = x
        · subst z; exact .inr c
        · exact .inl ⟨j, a, by omega, c⟩
    · rw [textOf_succ h0, if_pos ((mem u).1 v)]
    · rw [textOf_succ h0, if_neg fun z => v ((mem u).2 z)]
  · have ei : i = size := by omega
    subst ei
    have hm : editMay (textOf l i).length e := by rw [tl]; exact q
    have ml := editMade_len hm
    have ex : linesStarts (editMade (textOf l i) e) = (linesUpdated l e, 0) := by
      unfold linesStarts
      rw [if_neg (by omega), startsOf_made hm, startsOf_text ok hz]
    rw [ex]
    exact ⟨hm, by simp only [fitS]; omega, rfl, rfl⟩

theorem law_sameInts_hC : Cons Try.prog [] := trivial
theorem law_sameInts_con : Con Try.prog f_law_sameInts law_sameInts_ct := law_sameInts_vc law_sameInts_hC fun a b h => by
  simp only [inI_iff, true_and, and_true, ne_eq, Int.reduceEq, not_false_eq_true, Int.toNat_zero, false_bo, true_bo, fitL] at *
  refine ⟨fun q e => q (by rw [e]), fun q => ⟨fun i => 0 ≤ i ∧ i ≤ a.length ∧ ∀ j : Int, 0 ≤ j → j < i → gt a j = gt b j, fun i => (a.length - i).toNat, ⟨by omega, by omega, fun j h1 h2 => by omega⟩, fun i ⟨h0, h1, h2⟩ => ?_⟩⟩
  dsimp only
  refine ⟨fun r => ⟨h0, r, h0, by omega, fun t e => t (by rw [e]), fun t => ⟨by omega, ⟨by omega, by omega, fun j j0 j1 => ?_⟩, by omega⟩⟩, fun r => ?_⟩
  · by_cases e : j = i
    · rw [e]; exact Classical.byContradiction t
    · exact h2 j j0 (by omega)
  · exact ext_gt (by omega) fun j j0 j1 => h2 j j0 (by omega)

theorem law_LinesUpdates_hC : Cons Try.prog [(f_lines_Update, lines_Update_ct), (f_ref_LinesUpdate, ref_LinesUpdate_ct), (f_law_sameInts, law_sameInts_ct)] := ⟨lines_Update_con, ref_LinesUpdate_con, law_sameInts_con, trivial⟩
theorem law_LinesUpdates_con : Con Try.prog f_law_LinesUpdates law_LinesUpdates_ct := law_LinesUpdates_vc law_LinesUpdates_hC fun l size e h => by
  have a : fitL l ∧ inI64 size ∧ editFits (e.1, e.2.1, e.2.2) := ⟨h.1.1, h.2.1, h.2.2.1, h.2.2.2.1, h.2.2.2.2⟩
  exact ⟨a, a, ⟨linesUpdate_len _ _ _, linesUpdate_len _ _ _⟩, by simp⟩

end Go.Proofs.Ytmknkkafindicaa
