/- The contracts of the functions that the law reaches, and that of the law. Conditions: none. -/
import Derived.Test.YtmknkkafindicaaWWrapCosts
set_option linter.unusedVariables false
set_option linter.unusedSimpArgs false
set_option maxRecDepth 100000
namespace Go.Proofs.Ytmknkkafindicaa
open Go.Vc Go.Fu

theorem wrap_Check_hC : Cons Try.prog [] := trivial
theorem wrap_Check_con : Con Try.prog f_wrap_Check wrap_Check_ct := wrap_Check_vc wrap_Check_hC fun w wide _ => by
  simp only [inI_iff, true_and, and_true, ne_eq, Int.reduceEq, not_false_eq_true, Int.toNat_zero, wrapFault]
  refine ⟨fun q => by rw [if_pos (by omega)], fun q => ⟨fun r => by rw [if_neg (by omega), if_pos (by omega)], fun r => ⟨fun x f => 0 ≤ x ∧ x ≤ w.length ∧ f = wide ∧ ∀ j : Int, 0 ≤ j → j < x → 1 ≤ gt w j ∧ gt w j ≤ wide, fun x _ => (w.length - x).toNat, ⟨by omega, by omega, rfl, fun j a b => by omega⟩, ?_⟩⟩⟩
  rintro x f ⟨h0, h1, h2, h3⟩
  dsimp only
  subst h2
  refine ⟨fun t => ⟨h0, t, fun u => ⟨fun _ => by rw [if_neg (by omega), if_pos (.inr (.inr ⟨gt w x, gt_mem h0 t, u⟩))], fun c => by omega⟩, fun u => ⟨by omega, ⟨by omega, by omega, rfl, fun j a b => ?_⟩, by omega⟩⟩, fun t => ⟨fun c => by omega, fun _ => ?_⟩⟩
  · by_cases e : j = x
    · rw [e]; omega
    · exact h3 j a (by omega)
  · rw [if_neg (by omega), if_neg]
    rintro (c | c | ⟨n, hn, c⟩)
    · omega
    · omega
    · obtain ⟨j, a, b, rfl⟩ := mem_gt hn
      have := h3 j a (by omega)
      omega

theorem wrap_left_hC : Cons Try.prog [] := trivial
theorem wrap_left_con : Con Try.prog f_wrap_left wrap_left_ct := wrap_left_vc wrap_left_hC fun w wide ⟨⟨hw, hn⟩, h1, h2⟩ => by
  simp only [inI_iff, true_and, and_true, ne_eq, Int.reduceEq, not_false_eq_true, Int.toNat_zero]
  refine ⟨by omega, fun free x => 0 ≤ x ∧ x ≤ w.length ∧ free ≤ 61 ∧ -61 * x ≤ free ∧ free - ((w.drop x.toNat).sum + (w.length - x)) = wrapLeft w wide, fun _ x => (w.length - x).toNat, ⟨by omega, by omega, by omega, by omega, by simp [wrapLeft, lineWide]; omega⟩, ?_⟩
  rintro f x ⟨h0, h1, h2, h3, h4⟩
  dsimp only
  refine ⟨fun t => ?_, fun t => ?_⟩
  · have hg := hn _ (gt_mem h0 t)
    rw [drop_gt h0 t, List.sum_cons] at h4
    exact ⟨h0, t, by omega, by omega, by omega, ⟨by omega, by omega, by omega, by omega, by omega⟩, by omega⟩
  · rw [List.drop_of_length_le (by omega), List.sum_nil] at h4
    omega

theorem wrap_Cost_hC : Cons Try.prog [(f_wrap_Check, wrap_Check_ct), (f_wrap_left, wrap_left_ct)] := ⟨wrap_Check_con, wrap_left_con, trivial⟩
theorem wrap_Cost_con : Con Try.prog f_wrap_Cost wrap_Cost_ct := wrap_Cost_vc wrap_Cost_hC fun w wide s hs => by
  simp only [inI_iff, true_and, and_true, ne_eq, Int.reduceEq, not_false_eq_true, Int.toNat_zero, fitL] at *
  refine ⟨fun q => by rw [wrapCost_a q]; exact ⟨rfl, rfl⟩, fun q => ?_⟩
  have q : wrapFault w wide = 0 := Classical.byContradiction q
  obtain ⟨f1, f2, f3, f4⟩ := wrapFault_ok.1 q
  have hw : ∀ i j : Nat, wideOk ((w.take j).drop i) := fun i j => ⟨by simp; omega, fun n hn => by have := f4 n (List.mem_of_mem_take (List.mem_of_mem_drop hn)); omega⟩
  refine ⟨fun _ => by omega, fun c => by omega, fun c => ?_, fun c => ?_⟩
  · rcases c with c | c
    · by_cases e : s.length = 0
      · rw [wrapCost_b q e, if_neg (by omega)]; exact ⟨rfl, rfl⟩
      · have : w = [] := List.length_eq_zero_iff.1 (by omega)
        subst this
        rw [wrapCost_none q e (cost_nil e)]; exact ⟨rfl, rfl⟩
    · rw [wrapCost_at q (by omega) c.2]; exact ⟨rfl, rfl⟩
  · refine ⟨fun cost x => 0 ≤ x ∧ x ≤ s.length ∧ 0 ≤ cost ∧ cost ≤ 3600 * x ∧ (x < s.length → 0 ≤ gt s x) ∧ costGo w wide s = (costEnd w wide (s.drop x.toNat) w.length).map (cost + ·), fun _ x => (s.length - x).toNat, ⟨by omega, by omega, by omega, by omega, fun t => by omega, cost_start w s wide⟩, ?_⟩
    rintro cost x ⟨h0, h1, h2, h3, h4, h5⟩
    dsimp only
    have eT : iteP (x + 1 < (s.length : Int)) (gt s (x + 1)) (w.length : Int) = nxt w s x := iteP_if
    simp only [eT]
    have eL : wrapLeft (List.drop (gt s x).toNat (List.take (nxt w s x).toNat w)) wide = wide - lw w (gt s x) (nxt w s x) := rfl
    simp only [eL]
    refine ⟨fun t => ⟨h0, t, by omega, fun _ => by omega, fun _ => by omega, fun z => z, fun b => ?_, fun b => ⟨h4 t, by omega, by omega, ⟨hw _ _, f2, f3⟩, fun d => ?_, fun d => ?_⟩⟩, fun t => ?_⟩
    · rw [wrapCost_none q (by omega) (cost_none h0 t fun ⟨a1, a2, a3, a4⟩ => by omega)]; exact ⟨rfl, rfl⟩
    · rw [wrapCost_none q (by omega) (cost_none h0 t fun ⟨a1, a2, a3, a4⟩ => by omega)]; exact ⟨rfl, rfl⟩
    · have hk : lineOk w wide (gt s x) (nxt w s x) := ⟨h4 t, by omega, by omega, by omega⟩
      have bd := lw_bd f4 hk.1 hk.2.1 hk.2.2.1
      have st := cost_step h5 h0 t hk
      have sq := sq_le (a := wide - lw w (gt s x) (nxt w s x)) (by omega) (by omega)
      have sn := sq_nn (wide - lw w (gt s x) (nxt w s x))
      generalize hf : (wide - lw w (gt s x) (nxt w s x)) * (wide - lw w (gt s x) (nxt w s x)) = f at *
      refine ⟨by omega, fun u => ⟨by omega, by omega, by omega, ⟨by omega, by omega, by omega, by omega, fun _ => ?_, ?_⟩, by omega⟩, fun u => ⟨by omega, ⟨by omega, by omega, by omega, by omega, fun _ => by omega, ?_⟩, by omega⟩⟩
      · have en : nxt w s x = gt s (x + 1) := if_pos u
        have := h4 t
        omega
      · rw [if_pos u] at st; exact st
      · rw [if_neg u] at st; simpa using st
    · have e := cost_done h5 (by omega)
      by_cases z : s.length = 0
      · rw [wrapCost_b q z, if_pos (by omega)]; exact ⟨by omega, rfl⟩
      · rw [wrapCost_some q z (by omega) e]; exact ⟨rfl, rfl⟩

theorem ref_WrapFault_hC : Cons Try.prog [] := trivial
theorem ref_WrapFault_con : Con Try.prog f_ref_WrapFault ref_WrapFault_ct := ref_WrapFault_vc ref_WrapFault_hC fun w wide _ => by
  simp only [inI_iff, true_and, and_true, ne_eq, Int.reduceEq, not_false_eq_true, Int.toNat_zero, wrapFault]
  refine ⟨fun q => by rw [if_pos (by omega)], fun q => ⟨fun r => by rw [if_neg (by omega), if_pos (by omega)], fun r => ⟨fun x => 0 ≤ x ∧ x ≤ w.length ∧ ∀ j : Int, 0 ≤ j → j < x → 1 ≤ gt w j ∧ gt w j ≤ wide, fun x => (w.length - x).toNat, ⟨by omega, by omega, fun j a b => by omega⟩, ?_⟩⟩⟩
  rintro x ⟨h0, h1, h3⟩
  dsimp only
  refine ⟨fun t => ⟨h0, t, fun u => by rw [if_neg (by omega), if_pos (.inr (.inr ⟨gt w x, gt_mem h0 t, u⟩))], fun u => ⟨by omega, ⟨by omega, by omega, fun j a b => ?_⟩, by omega⟩⟩, fun t => ?_⟩
  · by_cases e : j = x
    · rw [e]; omega
    · exact h3 j a (by omega)
  · rw [if_neg (by omega), if_neg]
    rintro (c | c | ⟨n, hn, c⟩)
    · omega
    · omega
    · obtain ⟨j, a, b, rfl⟩ := mem_gt hn
      have := h3 j a (by omega)
      omega

theorem ref_lineWide_hC : Cons Try.prog [] := trivial
theorem ref_lineWide_con : Con Try.prog f_ref_lineWide ref_lineWide_ct := ref_lineWide_vc ref_lineWide_hC fun w ⟨hw, hn⟩ => by
  simp only [inI_iff, true_and, and_true, ne_eq, Int.reduceEq, not_false_eq_true, Int.toNat_zero]
  refine ⟨by omega, fun n x => 0 ≤ x ∧ x ≤ w.length ∧ w.length - 1 ≤ n ∧ n ≤ w.length - 1 + x * 60 ∧ n + (w.drop x.toNat).sum = lineWide w, fun _ x => (w.length - x).toNat, ⟨by omega, by omega, by omega, by omega, by simp [lineWide]; omega⟩, ?_⟩
  rintro n x ⟨h0, h1, h2, h3, h4⟩
  dsimp only
  refine ⟨fun t => ?_, fun t => ?_⟩
  · have hg := hn _ (gt_mem h0 t)
    rw [drop_gt h0 t, List.sum_cons] at h4
    exact ⟨h0, t, by omega, by omega, ⟨by omega, by omega, by omega, by omega, by omega⟩, by omega⟩
  · rw [List.drop_of_length_le (by omega)] at h4
    simpa using h4

theorem ref_WrapCost_hC : Cons Try.prog [(f_ref_WrapFault, ref_WrapFault_ct), (f_ref_lineWide, ref_lineWide_ct)] := ⟨ref_WrapFault_con, ref_lineWide_con, trivial⟩
theorem ref_WrapCost_con : Con Try.prog f_ref_WrapCost ref_WrapCost_ct := ref_WrapCost_vc ref_WrapCost_hC fun w wide s hs => by
  simp only [inI_iff, true_and, and_true, ne_eq, Int.reduceEq, not_false_eq_true, Int.toNat_zero, fitL] at *
  refine ⟨fun q => by rw [wrapCost_a q]; exact ⟨rfl, rfl⟩, fun q => ?_⟩
  have q : wrapFault w wide = 0 := Classical.byContradiction q
  obtain ⟨f1, f2, f3, f4⟩ := wrapFault_ok.1 q
  have hw : ∀ i j : Nat, wideOk ((w.take j).drop i) := fun i j => ⟨by simp; omega, fun n hn => by have := f4 n (List.mem_of_mem_take (List.mem_of_mem_drop hn)); omega⟩
  refine ⟨fun c => ⟨fun d => ?_, fun d => ?_⟩, fun c => ⟨fun _ => by omega, fun _ => by omega, fun d => ?_, fun d => ?_⟩⟩
  · have : w = [] := List.length_eq_zero_iff.1 (by omega)
    subst this
    rw [wrapCost_none q (by omega) (cost_nil (by omega))]; exact ⟨rfl, rfl⟩
  · rw [wrapCost_b q (by omega), if_pos (by omega)]; exact ⟨rfl, rfl⟩
  · by_cases e : s.length = 0
    · rw [wrapCost_b q e, if_neg (by omega)]; exact ⟨rfl, rfl⟩
    · rw [wrapCost_at q e (by omega)]; exact ⟨rfl, rfl⟩
  · have hz : gt s 0 = 0 := by omega
    refine ⟨fun x => 0 ≤ x ∧ x ≤ s.length ∧ ∀ j : Int, 0 ≤ j → j < x → 0 ≤ gt s j ∧ gt s j < w.length ∧ (0 < j → gt s (j - 1) < gt s j), fun x => (s.length - x).toNat, ⟨by omega, by omega, fun j a b => by omega⟩, ?_⟩
    rintro x ⟨h0, h1, h2⟩
    dsimp only
    refine ⟨fun t => ⟨h0, t, fun _ => by omega, fun _ => by omega, fun _ => by omega, fun b => ?_, fun b => ⟨by omega, ⟨by omega, by omega, fun j j0 j1 => ?_⟩, by omega⟩⟩, fun t => ?_⟩
    · suffices h : ∃ y, 0 ≤ y ∧ y < (s.length : Int) ∧ ¬ lineOk w wide (gt s y) (nxt w s y) by
        obtain ⟨y, y0, y1, y2⟩ := h
        rw [wrapCost_none q (by omega) (cost_none y0 y1 y2)]; exact ⟨rfl, rfl⟩
      rcases b with b | b
      · refine ⟨x, h0, t, ?_⟩
        rintro ⟨a1, a2, a3, a4⟩
        omega
      · refine ⟨x - 1, by omega, by omega, ?_⟩
        rintro ⟨a1, a2, a3, a4⟩
        have : nxt w s (x - 1) = gt s x := by unfold nxt; rw [if_pos (by omega), show x - 1 + 1 = x by omega]
        omega
    · by_cases e : j = x
      · subst e; omega
      · exact h2 j j0 (by omega)
    · have ok : ∀ x : Int, 0 ≤ x → x < s.length → 0 ≤ gt s x ∧ gt s x < nxt w s x ∧ nxt w s x ≤ w.length := fun y y0 y1 => by
        have g1 := h2 y y0 (by omega)
        unfold nxt
        split
        · have g2 := h2 (y + 1) (by omega) (by omega)
          have := g2.2.2 (by omega)
          rw [show y + 1 - 1 = y by omega] at this
          omega
        · omega
      refine ⟨fun cost x => 0 ≤ x ∧ x < s.length ∧ 0 ≤ cost ∧ cost ≤ 3600 * x ∧ costGo w wide s = (costEnd w wide (s.drop x.toNat) w.length).map (cost + ·), fun _ x => (s.length - x).toNat, ⟨by omega, by omega, by omega, by omega, cost_start w s wide⟩, ?_⟩
      rintro cost x ⟨g0, g1, g2, g3, g4⟩
      dsimp only
      obtain ⟨k1, k2, k3⟩ := ok x g0 g1
      refine ⟨fun t => ⟨g0, t, by omega, fun u => ⟨k1, by have := (h2 x g0 (by omega)).2.1; omega, by omega, hw _ _, ?_⟩, fun u => ⟨by omega, by omega, by omega, k1, ?_⟩⟩, fun t => by omega⟩
      · have en : nxt w s x = w.length := if_neg (by omega)
        have eL : lineWide (List.drop (gt s x).toNat (List.take ((w.length : Int)).toNat w)) = lw w (gt s x) (nxt w s x) := by rw [en]; rfl
        rw [eL]
        refine ⟨fun b => ?_, fun b => ?_⟩
        · rw [wrapCost_none q (by omega) (cost_none g0 t fun ⟨a1, a2, a3, a4⟩ => by omega)]; exact ⟨rfl, rfl⟩
        · have st := cost_step g4 g0 t ⟨k1, k2, k3, by omega⟩
          rw [if_neg (by omega)] at st
          rw [wrapCost_some q (by omega) hz (cost_done st (by omega))]; exact ⟨by simp, rfl⟩
      · have en : nxt w s x = gt s (x + 1) := if_pos (by omega)
        have eL : lineWide (List.drop (gt s x).toNat (List.take (gt s (x + 1)).toNat w)) = lw w (gt s x) (nxt w s x) := by rw [en]; rfl
        rw [eL]
        rw [en] at k2 k3
        refine ⟨by omega, by omega, hw _ _, fun b => ?_, fun b => ?_⟩
        · rw [wrapCost_none q (by omega) (cost_none g0 t fun ⟨a1, a2, a3, a4⟩ => by omega)]; exact ⟨rfl, rfl⟩
        · have hk : lineOk w wide (gt s x) (nxt w s x) := ⟨k1, by omega, by omega, by omega⟩
          have bd := lw_bd f4 hk.1 hk.2.1 hk.2.2.1
          have st := cost_step g4 g0 t hk
          have sq := sq_le (a := wide - lw w (gt s x) (nxt w s x)) (by omega) (by omega)
          have sn := sq_nn (wide - lw w (gt s x) (nxt w s x))
          rw [if_pos (by omega)] at st
          generalize hf : (wide - lw w (gt s x) (nxt w s x)) * (wide - lw w (gt s x) (nxt w s x)) = f at *
          exact ⟨by omega, by omega, by omega, by omega, by omega, ⟨by omega, by omega, by omega, by omega, st⟩, by omega⟩

theorem law_WrapCosts_hC : Cons Try.prog [(f_wrap_Cost, wrap_Cost_ct), (f_ref_WrapCost, ref_WrapCost_ct)] := ⟨wrap_Cost_con, ref_WrapCost_con, trivial⟩
theorem law_WrapCosts_con : Con Try.prog f_law_WrapCosts law_WrapCosts_ct := law_WrapCosts_vc law_WrapCosts_hC fun w wide s h => ⟨h.2.2.1, h.2.2.1, by simp⟩

end Go.Proofs.Ytmknkkafindicaa
