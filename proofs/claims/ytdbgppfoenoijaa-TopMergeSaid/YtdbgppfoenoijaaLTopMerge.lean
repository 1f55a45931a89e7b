/- The contracts of the functions that the law reaches, and that of the law. Conditions: none. -/
import Derived.Test.YtdbgppfoenoijaaWTopMerge
import Derived.Test.YtdbgppfoenoijaaH7
set_option linter.unusedVariables false
set_option linter.unusedSimpArgs false
set_option maxRecDepth 100000
namespace Go.Proofs.Ytdbgppfoenoijaa
open Go.Vc Go.Fu

theorem keep_Picked_hC : Cons Try.prog [] := trivial
theorem keep_Picked_con : Con Try.prog f_keep_Picked keep_Picked_ct := keep_Picked_vc keep_Picked_hC fun a n ⟨h1, h2, h3⟩ => by
  have h2 : 0 < n := h2
  have h3 : n ≤ 1000000 := h3
  have e := Int.tmod_eq_emod (a := a) (b := n)
  have e1 := Int.emod_nonneg a (show n ≠ 0 by omega)
  have e2 := Int.emod_lt_of_pos a h2
  unfold pickOf
  by_cases q : 0 ≤ a ∨ n ∣ a
  · rw [if_pos q] at e
    refine ⟨by omega, fun c => ⟨by unfold inI64; omega, by omega⟩, fun c => by omega⟩
  · rw [if_neg q] at e
    refine ⟨by omega, fun c => ⟨by unfold inI64; omega, by omega⟩, fun c => by omega⟩

theorem keep_TextOf_hC : Cons Try.prog [(f_keep_Picked, keep_Picked_ct)] := ⟨keep_Picked_con, trivial⟩
theorem keep_TextOf_con : Con Try.prog f_keep_TextOf keep_TextOf_ct := keep_TextOf_vc keep_TextOf_hC fun l n ⟨h1, h2, h3⟩ => by
  have h1 : ∀ i ∈ l, inI64 i := h1
  have h2 : 0 ≤ n := h2
  have h3 : n ≤ 1000 := h3
  rw [show ([(97 : UInt8), (98 : UInt8), (32 : UInt8), (10 : UInt8), (97 : UInt8), (98 : UInt8), (99 : UInt8), (100 : UInt8), (32 : UInt8), (98 : UInt8), (10 : UInt8), (97 : UInt8)] : List UInt8) = textSigns from rfl]
  refine ⟨fun out i => 0 ≤ i ∧ i ≤ l.length ∧ i ≤ n ∧ out = textOf l i, fun _ i => (n - i).toNat, ⟨by omega, by omega, h2, by simp [textOf]⟩, ?_⟩
  rintro out i ⟨i0, i1, i2, rfl⟩
  have fl := text_len l i
  refine ⟨fun t => ?_, fun t => ?_⟩
  · have hp : 0 ≤ pickOf (gt l i) 12 ∧ pickOf (gt l i) 12 < 12 := by unfold pickOf; omega
    have e1 : List.drop (Int.toNat 0) (List.take (Int.toNat 1) (List.drop (pickOf (gt l i) 12).toNat (List.take ((12 : Nat) : Int).toNat textSigns))) = [textByte (gt l i)] := text_one (gt l i)
    have e2 : ((List.drop (pickOf (gt l i) 12).toNat (List.take ((12 : Nat) : Int).toNat textSigns)).length : Int) = 12 - pickOf (gt l i) 12 := by
      rw [List.length_drop, show (List.take ((12 : Nat) : Int).toNat textSigns).length = 12 from rfl]; omega
    rw [e1, e2]
    refine ⟨i0, t.1, ⟨h1 _ (gt_mem i0 t.1), (show (0 : Int) < 12 by decide), (show (12 : Int) ≤ 1000000 by decide)⟩, hp.1, by omega, by omega, by omega, by omega, by omega, by simp only [List.length_singleton]; unfold inI64; omega, by unfold inI64; omega, ⟨by omega, by omega, by omega, (text_succ i0 t.1).symm⟩, by dsimp only; omega⟩
  · by_cases c : i = n
    · rw [c]
    · have : i = l.length := by omega
      unfold textOf
      rw [List.take_of_length_le (by omega), List.take_of_length_le (by omega)]

theorem keep_Few_hC : Cons Try.prog [(f_keep_Picked, keep_Picked_ct)] := ⟨keep_Picked_con, trivial⟩
theorem keep_Few_con : Con Try.prog f_keep_Few keep_Few_ct := keep_Few_vc keep_Few_hC fun l n ⟨h1, h2, h3⟩ => by
  have h1 : ∀ i ∈ l, inI64 i := h1
  have h2 : 0 ≤ n := h2
  have h3 : n ≤ 1000 := h3
  refine ⟨fun out i => 0 ≤ i ∧ i ≤ l.length ∧ i ≤ n ∧ out = fewOf l i, fun _ i => (n - i).toNat, ⟨by omega, by omega, h2, by simp [fewOf]⟩, ?_⟩
  rintro out i ⟨i0, i1, i2, rfl⟩
  have fl := few_len l i
  refine ⟨fun t => ?_, fun t => ?_⟩
  · rw [few_one]
    have hp : 0 ≤ pickOf (gt l i) 2 ∧ pickOf (gt l i) 2 < 2 := by unfold pickOf; omega
    refine ⟨i0, t.1, ⟨h1 _ (gt_mem i0 t.1), (show (0 : Int) < 2 by decide), (show (2 : Int) ≤ 1000000 by decide)⟩, hp.1, hp.2, by simp only [List.length_singleton]; unfold inI64; omega, by unfold inI64; omega, ⟨by omega, by omega, by omega, (few_succ i0 t.1).symm⟩, by dsimp only; omega⟩
  · by_cases c : i = n
    · rw [c]
    · have : i = l.length := by omega
      unfold fewOf
      rw [List.take_of_length_le (by omega), List.take_of_length_le (by omega)]

theorem edit_Check_hC : Cons Try.prog [] := trivial
theorem edit_Check_con : Con Try.prog f_edit_Check edit_Check_ct := edit_Check_vc edit_Check_hC fun size e ⟨h1, h2, h3, h4⟩ => (by
  simp only [inI_iff, fitS, editFault] at *
  refine ⟨fun h => by omega, fun h => ?_, fun h => ⟨by omega, by omega, fun g => ?_, fun g => ?_⟩⟩
  · rw [if_pos (by omega)]
  · rw [if_neg (by omega), if_pos (by omega)]
  · rw [if_neg (by omega), if_neg (by omega)])

theorem edit_Made_hC : Cons Try.prog [] := trivial
theorem edit_Made_con : Con Try.prog f_edit_Made edit_Made_ct := edit_Made_vc edit_Made_hC fun s e h => by
  have h' := editMay_iff.1 h
  have e1 : List.take ((s.length : Int)).toNat s = s := List.take_of_length_le (by omega)
  simp only [inI_iff, true_and, and_true, ne_eq, Int.reduceEq, not_false_eq_true, Int.toNat_zero, e1, List.drop_zero, List.length_append, List.length_take, List.length_drop, editMade]
  exact ⟨by omega, by omega, by omega, by omega, by omega, by omega, by omega, by omega, by omega⟩

theorem edit_Undo_hC : Cons Try.prog [] := trivial
theorem edit_Undo_con : Con Try.prog f_edit_Undo edit_Undo_ct := edit_Undo_vc edit_Undo_hC fun s e h => by
  have h' := editMay_iff.1 h
  simp only [inI_iff, true_and, and_true, ne_eq, Int.reduceEq, not_false_eq_true, Int.toNat_zero]
  exact ⟨by omega, by omega, by omega, by omega, rfl⟩

theorem edit_run_hC : Cons Try.prog [(f_edit_Check, edit_Check_ct), (f_edit_Made, edit_Made_ct), (f_edit_Undo, edit_Undo_ct)] := ⟨edit_Check_con, edit_Made_con, edit_Undo_con, trivial⟩
theorem edit_run_con : Con Try.prog f_edit_run edit_run_ct := edit_run_vc edit_run_hC fun s l hl => by
  simp only [inI_iff, true_and, and_true, ne_eq, Int.reduceEq, not_false_eq_true, Int.toNat_zero, prod_eta]
  refine ⟨fun q => by rw [editRun_bad (editsCode_big (by omega)) (by omega)]; exact ⟨rfl, rfl, rfl⟩, fun q => ?_⟩
  have hcode := editsCode_small (s := s) (l := l) (by omega)
  refine ⟨fun t x back => 0 ≤ x ∧ x ≤ l.length ∧ t = editLast s (l.take x.toNat) ∧ back = editBacks s (l.take x.toNat) ∧ t.length ≤ 600 ∧ editCode s.length l = editCode t.length (l.drop x.toNat), fun _ x _ => (l.length - x).toNat, ⟨by omega, by omega, by simp [editLast], by simp [editBacks], by omega, by simp⟩, ?_⟩
  rintro t x back ⟨h0, h1, h2, h3, h4, h5⟩
  dsimp only
  refine ⟨fun r => ?_, fun r => ?_⟩
  · rw [drop_gt h0 r] at h5
    have hf := hl _ (gt_mem h0 r)
    have hb : back.length = x.toNat := by rw [h3, editBacks_len]; simp only [List.length_take]; omega
    have ht := take_gt h0 r
    generalize gt l x = e at *
    simp only [editCode] at h5
    refine ⟨h0, r, ⟨by omega, hf⟩, fun u => ?_, fun u => ?_⟩
    · rw [if_pos u] at h5; rw [editRun_bad (hcode.trans h5) u]; exact ⟨rfl, rfl, rfl⟩
    · rw [if_neg u] at h5
      have hm : editMay t.length e := Classical.byContradiction u
      have hm' := editMay_iff.1 hm
      have hml := editMade_len hm
      refine ⟨hm, by omega, hm, by omega, ⟨by omega, by omega, ?_, ?_, by omega, by rw [h5, hml]⟩, by omega⟩
      · rw [ht, editLast_snoc, ← h2]
      · rw [ht, editBacks_snoc, ← h2, ← h3]
  · rw [List.drop_of_length_le (by omega)] at h5
    rw [List.take_of_length_le (by omega)] at h2 h3
    rw [editRun_ok (hcode.trans h5)]
    exact ⟨h2, h3, rfl⟩

theorem edit_Apply_hC : Cons Try.prog [(f_edit_run, edit_run_ct)] := ⟨edit_run_con, trivial⟩
theorem edit_Apply_con : Con Try.prog f_edit_Apply edit_Apply_ct := edit_Apply_vc edit_Apply_hC fun s l hl => ⟨hl, rfl, rfl⟩

theorem top_cutText_hC : Cons Try.prog [] := trivial
theorem top_cutText_con : Con Try.prog f_top_cutText ref_cutLines_ct := top_cutText_vc top_cutText_hC fun s hs => by
  simp only [inI_iff, true_and, and_true, ne_eq, Int.reduceEq, not_false_eq_true, Int.toNat_zero]
  refine ⟨fun i out => 0 ≤ i ∧ i ≤ s.length ∧ out ≠ [] ∧ out.length ≤ i + 1 ∧ (out.getLastD []).length ≤ i ∧ cutLines s = (s.drop i.toNat).foldl cutStep out, fun i _ => (s.length - i).toNat, ⟨by omega, by omega, by simp, by simp, by simp, by simp [cutLines]⟩, fun i out ⟨h0, h1, h2, h3, h4, h5⟩ => ?_⟩
  dsimp only
  refine ⟨fun q => ?_, fun q => ?_⟩
  · have hl : 0 < out.length := List.length_pos_iff.2 h2
    rw [drop_gt h0 q, List.foldl_cons] at h5
    refine ⟨h0, q, fun r => ?_, fun r => ?_⟩
    · have e : cutStep out (gt s i) = out ++ [[]] := by simp [cutStep, byte10.1 r]
      rw [e] at h5
      exact ⟨by omega, by omega, ⟨by omega, by omega, by simp, by simp; omega, by simp; omega, h5⟩, by omega⟩
    · have e : cutStep out (gt s i) = out.dropLast ++ [out.getLastD [] ++ [gt s i]] := by simp only [cutStep]; rw [if_neg fun e => r (byte10.2 e)]
      rw [e] at h5
      have e2 : (((out.length : Int) - 1).toNat) = out.length - 1 := by omega
      rw [sub_one h0 q, gt_last (d := []) h2, e2, set_last _ _ h2]
      refine ⟨by omega, by omega, by omega, by omega, by omega, by omega, by omega, by simp only [List.length_cons, List.length_nil]; omega, by omega, by omega, by omega, ⟨by omega, by omega, by simp, by simp; omega, by rw [List.getLastD_concat]; simp only [List.length_append, List.length_cons, List.length_nil]; omega, h5⟩, by omega⟩
  · rw [List.drop_of_length_le (by omega)] at h5
    simpa using h5.symm

theorem diff_fault_hC : Cons Try.prog [] := trivial
theorem diff_fault_con : Con Try.prog f_diff_fault diff_fault_ct := diff_fault_vc diff_fault_hC fun ls hls => by
  have hl : ls.length ≤ 1000 := hls
  simp only [inI_iff, true_and, and_true, ne_eq, Int.reduceEq, not_false_eq_true, Int.toNat_zero, Classical.not_not]
  refine ⟨fun x => 0 ≤ x ∧ x ≤ ls.length ∧ ∀ i : Int, 0 ≤ i → i < x → ¬ (80 < (gt ls i).length ∨ ∃ s ∈ gt ls i, 600 < s.length), fun x => (ls.length - x).toNat, ⟨by omega, by omega, fun j a b => by omega⟩, ?_⟩
  rintro x ⟨h0, h1, h2⟩
  dsimp only
  refine ⟨fun t => ⟨h0, t, fun u => ⟨fun y => 0 ≤ y ∧ y ≤ (gt ls x).length ∧ ∀ k : Int, 0 ≤ k → k < y → ¬ 600 < (gt (gt ls x) k).length, fun y => ((gt ls x).length - y).toNat, ⟨by omega, by omega, fun j a b => by omega⟩, ?_⟩, fun u => ⟨fun _ => (linesFault_bad h0 t (.inl (by omega))).symm, fun w => absurd u w⟩⟩, fun t => (linesFault_good fun i a b => h2 i a (by omega)).symm⟩
  rintro y ⟨g0, g1, g2⟩
  dsimp only
  refine ⟨fun v => ⟨g0, v, fun w => ⟨fun _ => (linesFault_bad h0 t (.inr ⟨_, gt_mem g0 v, by omega⟩)).symm, fun c => absurd (.inr g0) c⟩, fun w => ⟨by omega, ⟨by omega, by omega, fun k a b => ?_⟩, by omega⟩⟩, fun v => ⟨fun c => by omega, fun _ => ⟨by omega, ⟨by omega, by omega, fun i a b => ?_⟩, by omega⟩⟩⟩
  · by_cases e : k = y
    · subst e; omega
    · exact g2 k a (by omega)
  · by_cases e : i = x
    · subst e
      rintro (c | ⟨s, hs, c⟩)
      · omega
      · obtain ⟨k, p, q, rfl⟩ := mem_gt hs
        exact g2 k p (by omega) c
    · exact h2 i a (by omega)

theorem diff_Cost_hC : Cons Try.prog [(f_diff_fault, diff_fault_ct)] := ⟨diff_fault_con, trivial⟩
theorem diff_Cost_con : Con Try.prog f_diff_Cost diff_Cost_ct := diff_Cost_vc diff_Cost_hC fun a b _ => by
  simp only [inI_iff, true_and, and_true, ne_eq, Int.reduceEq, not_false_eq_true, Int.toNat_zero, diffCost]
  refine ⟨by simp [lsPre], fun c => by rw [if_pos c]; exact ⟨rfl, rfl⟩, fun c => ?_⟩
  have q : linesFault [a, b] = 0 := Classical.byContradiction c
  have la := linesFault_len q (a := a) (by simp)
  have lb := linesFault_len q (a := b) (by simp)
  rw [if_neg c]
  refine ⟨by omega, by omega, by omega, fun i out => -1 ≤ i ∧ i ≤ a.length ∧ out.length = a.length + 1 ∧ ∀ j : Int, i < j → j ≤ a.length → (gt out j).length = b.length + 1 ∧ ∀ k : Int, 0 ≤ k → k ≤ b.length → gt (gt out j) k = wayCost a b j k, fun i _ => (i + 1).toNat, ⟨by omega, by omega, by simp <;> omega, fun j j0 j1 => by omega⟩, ?_⟩
  rintro i out ⟨h0, h1, h2, h3⟩
  dsimp only
  refine ⟨fun t => ?_, fun t => ?_⟩
  · have ex : gt (out.set i.toNat (List.replicate ((b.length : Int) + 1).toNat 0)) i = List.replicate ((b.length : Int) + 1).toNat 0 := gt_set_eq t (by omega)
    refine ⟨by omega, by omega, by omega, t, by omega, fun y t1 => -1 ≤ y ∧ y ≤ b.length ∧ t1.length = a.length + 1 ∧ (∀ j : Int, i < j → j ≤ a.length → gt t1 j = gt out j) ∧ (gt t1 i).length = b.length + 1 ∧ ∀ k : Int, y < k → k ≤ b.length → gt (gt t1 i) k = wayCost a b i k, fun y _ => (y + 1).toNat, ⟨by omega, by omega, by simp; omega, fun j j0 j1 => gt_set_ne t (by omega) (by omega), by rw [ex]; simp <;> omega, fun k k0 k1 => by omega⟩, ?_⟩
    rintro y t1 ⟨k0, k1, k2, k3, k4, k5⟩
    dsimp only
    have step : ∀ v, 0 ≤ y → v = wayCost a b i y → -1 ≤ y - 1 ∧ y - 1 ≤ b.length ∧ (t1.set i.toNat ((gt t1 i).set y.toNat v)).length = a.length + 1 ∧ (∀ j : Int, i < j → j ≤ a.length → gt (t1.set i.toNat ((gt t1 i).set y.toNat v)) j = gt out j) ∧ (gt (t1.set i.toNat ((gt t1 i).set y.toNat v)) i).length = b.length + 1 ∧ ∀ k : Int, y - 1 < k → k ≤ b.length → gt (gt (t1.set i.toNat ((gt t1 i).set y.toNat v)) i) k = wayCost a b i k := fun v hy hv => by
      have e : gt (t1.set i.toNat ((gt t1 i).set y.toNat v)) i = (gt t1 i).set y.toNat v := gt_set_eq t (by omega)
      refine ⟨by omega, by omega, by simp; omega, fun j j0 j1 => ?_, by rw [e]; simp; omega, fun k c0 c1 => ?_⟩
      · rw [gt_set_ne t (by omega) (by omega)]; exact k3 j j0 j1
      · rw [e]
        by_cases z : k = y
        · subst z; rw [gt_set_eq hy (by omega)]; exact hv
        · rw [gt_set_ne hy (by omega) (fun w => z w.symm)]; exact k5 k (by omega) c1
    refine ⟨fun w => ⟨fun e => ?_, fun e => ⟨fun d => ?_, fun d => ?_⟩⟩, fun w => ⟨by omega, ⟨by omega, by omega, k2, fun j j0 j1 => ?_⟩, by omega⟩⟩
    · exact ⟨t, by omega, by omega, w, by omega, by omega, step _ w (by rw [e, wayCost_a]), by omega⟩
    · exact ⟨t, by omega, by omega, w, by omega, by omega, step _ w (by rw [d, wayCost_b]), by omega⟩
    · have eo := k3 (i + 1) (by omega) (by omega)
      obtain ⟨p1, p2⟩ := h3 (i + 1) (by omega) (by omega)
      have q1 := p2 (y + 1) (by omega) (by omega)
      have q2 := p2 y (by omega) (by omega)
      have q3 := k5 (y + 1) (by omega) (by omega)
      have b1 := wayCost_bd (a := a) (b := b) (show 0 ≤ i + 1 by omega) (show i + 1 ≤ a.length by omega) (show 0 ≤ y by omega) (by omega)
      have b2 := wayCost_bd (a := a) (b := b) (show 0 ≤ i by omega) (show i ≤ a.length by omega) (show 0 ≤ y + 1 by omega) (by omega)
      rw [eo]
      refine ⟨t, by omega, w, by omega, fun e' => ?_, fun e' => ?_⟩
      · have ls := wayCost_same t (by omega) w (by omega) e'
        exact ⟨by omega, by omega, by omega, by omega, by omega, by omega, by omega, by omega, by omega, by omega, by omega, step _ w (by rw [q1, ls]), by omega⟩
      · have ls := wayCost_diff t (by omega) w (by omega) e'
        rw [q2, q3]
        exact ⟨by omega, by omega, by omega, by omega, by omega, by omega, by omega, by omega, by omega, by omega, by omega, by omega, by omega, by omega, by omega, by omega, step _ w ls.symm, by omega⟩
    · by_cases z : j = i
      · subst z; exact ⟨k4, fun k c0 c1 => k5 k (by omega) c1⟩
      · rw [k3 j (by omega) j1]; exact h3 j (by omega) j1
  · obtain ⟨p1, p2⟩ := h3 0 (by omega) (by omega)
    exact ⟨by omega, by omega, by omega, by omega, by rw [p2 0 (by omega) (by omega), wayCost_all], by trivial⟩

theorem diff_Way_hC : Cons Try.prog [] := trivial
theorem diff_Way_con : Con Try.prog f_diff_Way diff_Way_ct := diff_Way_vc diff_Way_hC fun a b ⟨ha, hb⟩ => by
  have la : a.length ≤ 80 := ha
  have lb : b.length ≤ 80 := hb
  simp only [inI_iff, true_and, and_true, ne_eq, Int.reduceEq, not_false_eq_true, Int.toNat_zero]
  refine ⟨by omega, by omega, by omega, fun i out => -1 ≤ i ∧ i ≤ a.length ∧ out.length = a.length + 1 ∧ ∀ j : Int, i < j → j ≤ a.length → (gt out j).length = b.length + 1 ∧ ∀ k : Int, 0 ≤ k → k ≤ b.length → gt (gt out j) k = wayCost a b j k, fun i _ => (i + 1).toNat, ⟨by omega, by omega, by simp <;> omega, fun j j0 j1 => by omega⟩, ?_⟩
  rintro i out ⟨h0, h1, h2, h3⟩
  dsimp only
  refine ⟨fun t => ?_, fun t => ?_⟩
  · have ex : gt (out.set i.toNat (List.replicate ((b.length : Int) + 1).toNat 0)) i = List.replicate ((b.length : Int) + 1).toNat 0 := gt_set_eq t (by omega)
    refine ⟨by omega, by omega, by omega, t, by omega, fun y t1 => -1 ≤ y ∧ y ≤ b.length ∧ t1.length = a.length + 1 ∧ (∀ j : Int, i < j → j ≤ a.length → gt t1 j = gt out j) ∧ (gt t1 i).length = b.length + 1 ∧ ∀ k : Int, y < k → k ≤ b.length → gt (gt t1 i) k = wayCost a b i k, fun y _ => (y + 1).toNat, ⟨by omega, by omega, by simp; omega, fun j j0 j1 => gt_set_ne t (by omega) (by omega), by rw [ex]; simp <;> omega, fun k k0 k1 => by omega⟩, ?_⟩
    rintro y t1 ⟨k0, k1, k2, k3, k4, k5⟩
    dsimp only
    have step : ∀ v, 0 ≤ y → v = wayCost a b i y → -1 ≤ y - 1 ∧ y - 1 ≤ b.length ∧ (t1.set i.toNat ((gt t1 i).set y.toNat v)).length = a.length + 1 ∧ (∀ j : Int, i < j → j ≤ a.length → gt (t1.set i.toNat ((gt t1 i).set y.toNat v)) j = gt out j) ∧ (gt (t1.set i.toNat ((gt t1 i).set y.toNat v)) i).length = b.length + 1 ∧ ∀ k : Int, y - 1 < k → k ≤ b.length → gt (gt (t1.set i.toNat ((gt t1 i).set y.toNat v)) i) k = wayCost a b i k := fun v hy hv => by
      have e : gt (t1.set i.toNat ((gt t1 i).set y.toNat v)) i = (gt t1 i).set y.toNat v := gt_set_eq t (by omega)
      refine ⟨by omega, by omega, by simp; omega, fun j j0 j1 => ?_, by rw [e]; simp; omega, fun k c0 c1 => ?_⟩
      · rw [gt_set_ne t (by omega) (by omega)]; exact k3 j j0 j1
      · rw [e]
        by_cases z : k = y
        · subst z; rw [gt_set_eq hy (by omega)]; exact hv
        · rw [gt_set_ne hy (by omega) (fun w => z w.symm)]; exact k5 k (by omega) c1
    refine ⟨fun w => ⟨fun e => ?_, fun e => ⟨fun d => ?_, fun d => ?_⟩⟩, fun w => ⟨by omega, ⟨by omega, by omega, k2, fun j j0 j1 => ?_⟩, by omega⟩⟩
    · exact ⟨t, by omega, by omega, w, by omega, by omega, step _ w (by rw [e, wayCost_a]), by omega⟩
    · exact ⟨t, by omega, by omega, w, by omega, by omega, step _ w (by rw [d, wayCost_b]), by omega⟩
    · have eo := k3 (i + 1) (by omega) (by omega)
      obtain ⟨p1, p2⟩ := h3 (i + 1) (by omega) (by omega)
      have q1 := p2 (y + 1) (by omega) (by omega)
      have q2 := p2 y (by omega) (by omega)
      have q3 := k5 (y + 1) (by omega) (by omega)
      have b1 := wayCost_bd (a := a) (b := b) (show 0 ≤ i + 1 by omega) (show i + 1 ≤ a.length by omega) (show 0 ≤ y by omega) (by omega)
      have b2 := wayCost_bd (a := a) (b := b) (show 0 ≤ i by omega) (show i ≤ a.length by omega) (show 0 ≤ y + 1 by omega) (by omega)
      rw [eo]
      refine ⟨t, by omega, w, by omega, fun e' => ?_, fun e' => ?_⟩
      · have ls := wayCost_same t (by omega) w (by omega) e'
        exact ⟨by omega, by omega, by omega, by omega, by omega, by omega, by omega, by omega, by omega, by omega, by omega, step _ w (by rw [q1, ls]), by omega⟩
      · have ls := wayCost_diff t (by omega) w (by omega) e'
        rw [q2, q3]
        exact ⟨by omega, by omega, by omega, by omega, by omega, by omega, by omega, by omega, by omega, by omega, by omega, by omega, by omega, by omega, by omega, by omega, step _ w ls.symm, by omega⟩
    · by_cases z : j = i
      · subst z; exact ⟨k4, fun k c0 c1 => k5 k (by omega) c1⟩
      · rw [k3 j (by omega) j1]; exact h3 j (by omega) j1
  · have cst : ∀ j : Int, 0 ≤ j → j ≤ a.length → (gt out j).length = b.length + 1 ∧ ∀ k : Int, 0 ≤ k → k ≤ b.length → gt (gt out j) k = wayCost a b j k := fun j j0 j1 => h3 j (by omega) j1
    clear h3
    refine ⟨fun i k o => 0 ≤ i ∧ i ≤ a.length ∧ 0 ≤ k ∧ k ≤ b.length ∧ cntOk o (i + k) ∧ (wayKinds (a.drop i.toNat) (b.drop k.toNat)).foldl addStep o = stepsOf (wayKinds a b), fun i k _ => (a.length - i + (b.length - k)).toNat, ⟨by omega, by omega, by omega, by omega, ⟨by simp, fun j j0 j1 => by simp at j1; omega⟩, by simp [stepsOf]⟩, ?_⟩
    rintro i k o ⟨g0, g1, g2, g3, g4, g5⟩
    dsimp only
    have oc : ∀ j : Int, 0 ≤ j → j < o.length → 0 ≤ (gt o j).2 ∧ (gt o j).2 ≤ i + k := g4.2
    have ol : (o.length : Int) ≤ i + k := g4.1
    refine ⟨fun u => ⟨fun _ => g0, fun v => v.1, fun _ => g2, fun v => v.2, fun v => ?_, fun v => ?_⟩, fun u => ?_⟩
    · have hw := way_keep g0 v.1.1 g2 v.1.2 v.2
      rw [hw, List.foldl_cons] at g5
      have hc := cnt_add (k := 1) g4 (by omega)
      rw [show i + k + 1 = i + 1 + k by omega] at hc
      refine ⟨fun _ => by omega, fun _ => by omega, fun _ => by omega, fun w => ?_, fun w => ?_⟩
      · have := oc ((o.length : Int) - 1) (by omega) (by omega)
        rw [add_more w] at g5 hc
        exact ⟨by omega, by omega, by omega, by omega, by omega, by omega, by omega, by omega, ⟨by omega, by omega, by omega, by omega, by rw [show i + 1 + (k + 1) = i + 1 + k + 1 by omega]; exact ⟨by have := hc.1; omega, fun j j0 j1 => by have := hc.2 j j0 j1; omega⟩, g5⟩, by omega⟩
      · rw [add_new w] at g5 hc
        exact ⟨by omega, by omega, by omega, ⟨by omega, by omega, by omega, by omega, by rw [show i + 1 + (k + 1) = i + 1 + k + 1 by omega]; exact ⟨by have := hc.1; omega, fun j j0 j1 => by have := hc.2 j j0 j1; omega⟩, g5⟩, by omega⟩
    · have c1 : i < a.length → gt (gt out (i + 1)) k = wayCost a b (i + 1) k := fun w => (cst (i + 1) (by omega) (by omega)).2 k g2 g3
      have c2 : gt (gt out i) k = wayCost a b i k := (cst i g0 g1).2 k g2 g3
      have l1 : i < a.length → (gt out (i + 1)).length = b.length + 1 := fun w => (cst (i + 1) (by omega) (by omega)).1
      have l2 := (cst i g0 g1).1
      refine ⟨fun _ => by omega, fun _ => by omega, fun w => by omega, fun _ => g2, fun w => by rw [l1 w]; omega, fun w => by rw [c1 w]; have := wayCost_bd (a := a) (b := b) (show 0 ≤ i + 1 by omega) (by omega) g2 g3; omega, fun _ => g0, fun _ => by omega, fun _ => g2, fun _ => by rw [l2]; omega, fun w => ?_, fun w => ?_⟩
      · rw [c1 w.1, c2] at w
        have hw := way_drop g0 w.1 g2 g3 (fun c => v ⟨⟨w.1, c.1⟩, c.2⟩) ((cost_lcs g0 w.1).1 w.2)
        rw [hw, List.foldl_cons] at g5
        have hc := cnt_add (k := 2) g4 (by omega)
        rw [show i + k + 1 = i + 1 + k by omega] at hc
        refine ⟨fun _ => by omega, fun _ => by omega, fun _ => by omega, fun z => ?_, fun z => ?_⟩
        · have := oc ((o.length : Int) - 1) (by omega) (by omega)
          rw [add_more z] at g5 hc
          exact ⟨by omega, by omega, by omega, by omega, by omega, by omega, by omega, ⟨by omega, by omega, by omega, by omega, hc, g5⟩, by omega⟩
        · rw [add_new z] at g5 hc
          exact ⟨by omega, by omega, ⟨by omega, by omega, by omega, by omega, hc, g5⟩, by omega⟩
      · have hk : k < b.length := by
          rcases Int.lt_or_le k b.length with c | c
          · exact c
          · have hi : i < a.length := by omega
            refine absurd ⟨hi, ?_⟩ w
            rw [c1 hi, c2, cost_lcs g0 hi]
            exact lcs_end c
        have hw := way_take g0 g1 g2 hk (fun c => v ⟨⟨c.1, hk⟩, c.2⟩) fun c => w ⟨c.1, by rw [c1 c.1, c2, cost_lcs g0 c.1]; exact c.2⟩
        rw [hw, List.foldl_cons] at g5
        have hc := cnt_add (k := 3) g4 (by omega)
        rw [show i + k + 1 = i + (k + 1) by omega] at hc
        refine ⟨fun _ => by omega, fun _ => by omega, fun _ => by omega, fun z => ?_, fun z => ?_⟩
        · have := oc ((o.length : Int) - 1) (by omega) (by omega)
          rw [add_more z] at g5 hc
          exact ⟨by omega, by omega, by omega, by omega, by omega, by omega, by omega, ⟨by omega, by omega, by omega, by omega, hc, g5⟩, by omega⟩
        · rw [add_new z] at g5 hc
          exact ⟨by omega, by omega, ⟨by omega, by omega, by omega, by omega, hc, g5⟩, by omega⟩
    · rw [show a.drop i.toNat = [] from List.drop_of_length_le (by omega), show b.drop k.toNat = [] from List.drop_of_length_le (by omega)] at g5
      simpa [wayKinds] using g5
theorem merge_Merge_con : Con Try.prog f_merge_Merge merge_Merge_ct := H.merge_con diff_Way_con

theorem top_sameTexts_hC : Cons Try.prog [] := trivial
theorem top_sameTexts_con : Con Try.prog f_top_sameTexts law_sameTexts_ct := top_sameTexts_vc top_sameTexts_hC fun a b h => by
  simp only [inI_iff, true_and, and_true, ne_eq, Int.reduceEq, not_false_eq_true, Int.toNat_zero, false_bo, true_bo, fitL] at *
  refine ⟨fun q e => q (by rw [e]), fun q => ⟨fun i => 0 ≤ i ∧ i ≤ a.length ∧ ∀ j : Int, 0 ≤ j → j < i → gt a j = gt b j, fun i => (a.length - i).toNat, ⟨by omega, by omega, fun j h1 h2 => by omega⟩, fun i ⟨h0, h1, h2⟩ => ?_⟩⟩
  dsimp only
  refine ⟨fun r => ⟨h0, r, h0, by omega, fun t e => t (by rw [e]), fun t => ⟨by omega, ⟨by omega, by omega, fun j j0 j1 => ?_⟩, by omega⟩⟩, fun r => ?_⟩
  · by_cases e : j = i
    · rw [e]; exact Classical.byContradiction t
    · exact h2 j j0 (by omega)
  · exact ext_gt (by omega) fun j j0 j1 => h2 j j0 (by omega)

theorem top_TopMerge_hC : Cons Try.prog [(f_keep_TextOf, keep_TextOf_ct), (f_keep_Picked, keep_Picked_ct), (f_keep_Few, keep_Few_ct), (f_edit_Apply, edit_Apply_ct), (f_top_cutText, ref_cutLines_ct), (f_diff_Cost, diff_Cost_ct), (f_merge_Merge, merge_Merge_ct), (f_top_sameTexts, law_sameTexts_ct)] := ⟨keep_TextOf_con, keep_Picked_con, keep_Few_con, edit_Apply_con, top_cutText_con, diff_Cost_con, merge_Merge_con, top_sameTexts_con, trivial⟩
theorem law_TopMerge_con : Con Try.prog f_top_TopMerge law_TopMerge_ct := top_TopMerge_vc top_TopMerge_hC fun text at_ put ⟨h1, h2, h3⟩ => by
  have l1 := text_len text 80
  have l2 := few_len put 5
  have hn := few_no10 put 5
  have f1 : fewPre (text, 80) := ⟨h1.2, (show (0 : Int) ≤ 80 by decide), (show (80 : Int) ≤ 1000 by decide)⟩
  have f2 : fewPre (put, 5) := ⟨h3.2, (show (0 : Int) ≤ 5 by decide), (show (5 : Int) ≤ 1000 by decide)⟩
  generalize textOf text 80 = s at *
  generalize fewOf put 5 = p at *
  have hs : s.length ≤ 80 := by omega
  have hp : p.length ≤ 5 := by omega
  have hk : 0 ≤ pickOf at_ ((s.length : Int) + 1) ∧ pickOf at_ ((s.length : Int) + 1) ≤ s.length := by
    unfold pickOf
    have e1 := Int.emod_nonneg at_ (show (s.length : Int) + 1 ≠ 0 by omega)
    have e2 := Int.emod_lt_of_pos at_ (show 0 < (s.length : Int) + 1 by omega)
    omega
  generalize pickOf at_ ((s.length : Int) + 1) = k at *
  obtain ⟨k0, k1⟩ := hk
  rw [apply_one hs k0 k1 hp]
  obtain ⟨t1, t2⟩ := top_merge hs k0 k1 hp hn
  have lt : (editedAt s k p).length ≤ 85 := by unfold editedAt; simp; omega
  have c1 := (cutLines_len s).1
  have c2 := (cutLines_len (editedAt s k p)).1
  refine ⟨f1, by unfold inI64; omega, ⟨h2, (show (0 : Int) < (s.length : Int) + 1 by omega), (show (s.length : Int) + 1 ≤ 1000000 by omega)⟩, f2, fun e he => ?_, by omega, by show (editedAt s k p).length ≤ _; omega, fun c => ?_, fun c => ?_⟩
  · simp only [List.mem_singleton] at he
    subst he
    refine ⟨?_, ?_, ?_⟩
    · show inI64 k; unfold inI64; omega
    · show inI64 0; unfold inI64; omega
    · show p.length ≤ _; omega
  · have c : 80 < ((cutLines s).length : Int) := c.resolve_right fun q => q rfl
    exact ⟨fun _ => by unfold inI64; omega, by rw [bo_iff]; exact ⟨rfl, by omega⟩⟩
  · have c : (cutLines s).length ≤ 80 := by
      refine Classical.byContradiction fun q => c (.inl ?_)
      omega
    obtain ⟨u1, u2⟩ := t2 c
    have hi : (iteP (s = editedAt s k p) 0 2 : Int) = if s = editedAt s k p then 0 else 2 := by
      by_cases e : s = editedAt s k p
      · rw [if_pos e]; exact iteP_pos e
      · rw [if_neg e]; exact iteP_neg e
    rw [u1, u2, hi]
    refine ⟨trivial, by simp [lsPre], fun _ => ⟨by show (cutLines (editedAt s k p)).length ≤ _; omega, by show (cutLines (editedAt s k p)).length ≤ _; omega⟩, ?_⟩
    rw [bo_iff, bo_iff]
    exact ⟨⟨⟨⟨⟨rfl, rfl⟩, rfl⟩, rfl⟩, rfl⟩, by show ((cutLines s).length : Int) = ((cutLines (editedAt s k p)).length : Int); omega⟩

end Go.Proofs.Ytdbgppfoenoijaa
