/- The contracts of the functions that the law reaches, and that of the law. Conditions: none. -/
import Derived.Test.YtcgggoaefceokaaWWrapGreedies
set_option linter.unusedVariables false
set_option linter.unusedSimpArgs false
set_option maxRecDepth 100000
namespace Go.Proofs.Ytcgggoaefceokaa
open Go.Vc Go.Fu

theorem wrap_Check_hC : Cons Try.prog [] := trivial
theorem wrap_Check_con : Con Try.prog f_wrap_Check wrap_Check_ct := wrap_Check_vc wrap_Check_hC fun w wide _ => by
  simp only [inI_iff, true_and, and_true, ne_eq, Int.reduceEq, not_false_eq_true, Int.toNat_zero, wrapFault]
  refine ⟨fun q => by rw [if_pos (by omega)], fun q => ⟨fun r => by rw [if_neg (by omega), if_pos (by omega)], fun r => ⟨fun x f => 0 ≤ x ∧ x ≤ w.length ∧ f = wide ∧ ∀ j : Int, 0 ≤ j → j < x → 1 ≤ gt w j ∧ gt w j ≤ wide, fun x _ => (w.length - x).toNat, ⟨by omega, by omega, rfl, fun j a b => by omega⟩, ?_⟩⟩⟩
  rintro x f ⟨h0, h1, h2, h3⟩
  dsimp only
  subst h2
  refine ⟨fun t => ⟨h0, t, fun u => ⟨fun _ => by rw [if_neg (by omega), if_pos (.inr (.inr ⟨gt w x, gt_mem h0 t, u⟩))], fun c => by omega⟩, fun u => ⟨by omega, ⟨by omega, by omega, rfl, fun j a b => ?_⟩, by omega⟩⟩, fun t => ⟨fun c => by omega, fun _ => ?_⟩⟩
  · by_cases e : j = x
    · rw [e]; omega
    · exact h3 j a (by omega)
  · rw [if_neg (by omega), if_neg]
    rintro (c | c | ⟨n, hn, c⟩)
    · omega
    · omega
    · obtain ⟨j, a, b, rfl⟩ := mem_gt hn
      have := h3 j a (by omega)
      omega

theorem wrap_Greedy_hC : Cons Try.prog [(f_wrap_Check, wrap_Check_ct)] := ⟨wrap_Check_con, trivial⟩
theorem wrap_Greedy_con : Con Try.prog f_wrap_Greedy wrap_Greedy_ct := wrap_Greedy_vc wrap_Greedy_hC fun w wide _ => by
  simp only [inI_iff, true_and, and_true, ne_eq, Int.reduceEq, not_false_eq_true, Int.toNat_zero, wrapGreedy]
  refine ⟨fun q => by rw [if_neg q]; exact ⟨rfl, rfl⟩, fun q => ?_⟩
  have q : wrapFault w wide = 0 := Classical.byContradiction q
  rw [if_pos q]
  obtain ⟨f1, f2, f3, f4⟩ := wrapFault_ok.1 q
  refine ⟨fun free x out => 0 ≤ x ∧ x ≤ w.length ∧ out.length ≤ x ∧ -1 ≤ free ∧ free ≤ 60 ∧ (if x = 0 then out = [] else out ++ greedyOn wide x free (w.drop x.toNat) = greedyAt wide 0 w), fun _ x _ => (w.length - x).toNat, ⟨by omega, by omega, by simp, by omega, by omega, by simp⟩, ?_⟩
  rintro free x out ⟨h0, h1, h2, h3, h4, h5⟩
  dsimp only
  refine ⟨fun t => ?_, fun t => ?_⟩
  · have hg := f4 _ (gt_mem h0 t)
    refine ⟨h0, t, by omega, fun u => ⟨by omega, by omega, by omega, ⟨by omega, by omega, by simp; omega, by omega, by omega, ?_⟩, by omega⟩, fun u => ⟨by omega, by omega, by omega, ⟨by omega, by omega, by omega, by omega, by omega, ?_⟩, by omega⟩⟩
    · rw [if_neg (by omega)]
      by_cases e : x = 0
      · subst e
        rw [if_pos rfl] at h5
        subst h5
        have := drop_gt (l := w) (i := 0) (by omega) t
        simp only [Int.toNat_zero, List.drop_zero] at this
        rw [show greedyAt wide 0 w = greedyAt wide 0 (gt w 0 :: w.drop (0 + 1 : Int).toNat) from congrArg _ this]
        simp [greedyAt]
      · rw [if_neg e, drop_gt h0 t] at h5
        simp only [greedyOn] at h5
        rw [if_pos (by omega)] at h5
        simpa using h5
    · rw [if_neg (by omega), drop_gt h0 t] at h5
      rw [if_neg (by omega)]
      simp only [greedyOn] at h5
      rwa [if_neg (by omega)] at h5
  · by_cases e : x = 0
    · rw [if_pos e] at h5
      have : w = [] := List.length_eq_zero_iff.1 (by omega)
      subst this
      subst h5
      exact ⟨rfl, rfl⟩
    · rw [if_neg e, List.drop_of_length_le (by omega)] at h5
      simp only [greedyOn, List.append_nil] at h5
      exact ⟨h5, rfl⟩

theorem ref_WrapFault_hC : Cons Try.prog [] := trivial
theorem ref_WrapFault_con : Con Try.prog f_ref_WrapFault ref_WrapFault_ct := ref_WrapFault_vc ref_WrapFault_hC fun w wide _ => by
  simp only [inI_iff, true_and, and_true, ne_eq, Int.reduceEq, not_false_eq_true, Int.toNat_zero, wrapFault]
  refine ⟨fun q => by rw [if_pos (by omega)], fun q => ⟨fun r => by rw [if_neg (by omega), if_pos (by omega)], fun r => ⟨fun x => 0 ≤ x ∧ x ≤ w.length ∧ ∀ j : Int, 0 ≤ j → j < x → 1 ≤ gt w j ∧ gt w j ≤ wide, fun x => (w.length - x).toNat, ⟨by omega, by omega, fun j a b => by omega⟩, ?_⟩⟩⟩
  rintro x ⟨h0, h1, h3⟩
  dsimp only
  refine ⟨fun t => ⟨h0, t, fun u => by rw [if_neg (by omega), if_pos (.inr (.inr ⟨gt w x, gt_mem h0 t, u⟩))], fun u => ⟨by omega, ⟨by omega, by omega, fun j a b => ?_⟩, by omega⟩⟩, fun t => ?_⟩
  · by_cases e : j = x
    · rw [e]; omega
    · exact h3 j a (by omega)
  · rw [if_neg (by omega), if_neg]
    rintro (c | c | ⟨n, hn, c⟩)
    · omega
    · omega
    · obtain ⟨j, a, b, rfl⟩ := mem_gt hn
      have := h3 j a (by omega)
      omega

theorem ref_lineWide_hC : Cons Try.prog [] := trivial
theorem ref_lineWide_con : Con Try.prog f_ref_lineWide ref_lineWide_ct := ref_lineWide_vc ref_lineWide_hC fun w ⟨hw, hn⟩ => by
  simp only [inI_iff, true_and, and_true, ne_eq, Int.reduceEq, not_false_eq_true, Int.toNat_zero]
  refine ⟨by omega, fun n x => 0 ≤ x ∧ x ≤ w.length ∧ w.length - 1 ≤ n ∧ n ≤ w.length - 1 + x * 60 ∧ n + (w.drop x.toNat).sum = lineWide w, fun _ x => (w.length - x).toNat, ⟨by omega, by omega, by omega, by omega, by simp [lineWide]; omega⟩, ?_⟩
  rintro n x ⟨h0, h1, h2, h3, h4⟩
  dsimp only
  refine ⟨fun t => ?_, fun t => ?_⟩
  · have hg := hn _ (gt_mem h0 t)
    rw [drop_gt h0 t, List.sum_cons] at h4
    exact ⟨h0, t, by omega, by omega, ⟨by omega, by omega, by omega, by omega, by omega⟩, by omega⟩
  · rw [List.drop_of_length_le (by omega)] at h4
    simpa using h4

theorem ref_WrapGreedy_hC : Cons Try.prog [(f_ref_WrapFault, ref_WrapFault_ct), (f_ref_lineWide, ref_lineWide_ct)] := ⟨ref_WrapFault_con, ref_lineWide_con, trivial⟩
theorem ref_WrapGreedy_con : Con Try.prog f_ref_WrapGreedy ref_WrapGreedy_ct := ref_WrapGreedy_vc ref_WrapGreedy_hC fun w wide _ => by
  simp only [inI_iff, true_and, and_true, ne_eq, Int.reduceEq, not_false_eq_true, Int.toNat_zero, wrapGreedy]
  refine ⟨fun q => by rw [if_neg q]; exact ⟨rfl, rfl⟩, fun q => ?_⟩
  have q : wrapFault w wide = 0 := Classical.byContradiction q
  rw [if_pos q]
  obtain ⟨f1, f2, f3, f4⟩ := wrapFault_ok.1 q
  have hw : ∀ i j : Nat, wideOk ((w.take j).drop i) := fun i j => ⟨by simp; omega, fun n hn => by have := f4 n (List.mem_of_mem_take (List.mem_of_mem_drop hn)); omega⟩
  refine ⟨fun x out => 0 ≤ x ∧ x ≤ w.length ∧ out.length ≤ x ∧ out ++ greedyAt wide x (w.drop x.toNat) = greedyAt wide 0 w, fun x _ => (w.length - x).toNat, ⟨by omega, by omega, by simp, by simp⟩, ?_⟩
  rintro x out ⟨h0, h1, h2, h5⟩
  dsimp only
  refine ⟨fun t => ⟨by omega, by omega, fun to => x < to ∧ to ≤ w.length ∧ lw w x to ≤ wide ∧ out ++ [x] ++ greedyOn wide to (wide - lw w x to) (w.drop to.toNat) = greedyAt wide 0 w, fun to => (w.length - to).toNat, ⟨by omega, by omega, ?_, ?_⟩, ?_⟩, fun t => ?_⟩
  · have hg := f4 _ (gt_mem h0 t)
    rw [lw_succ h0 (by omega) t, lw_self h0]; omega
  · rw [drop_gt h0 t] at h5
    rw [lw_succ h0 (by omega) t, lw_self h0, show wide - (-1 + gt w x + 1) = wide - gt w x by omega]
    simpa [greedyAt] using h5
  · rintro to ⟨g0, g1, g2, g3⟩
    dsimp only
    refine ⟨fun _ => by omega, fun _ => h0, fun _ => by omega, fun _ => by omega, fun _ => hw _ _, fun u => ?_, fun u => ?_⟩
    · have e : lineWide (List.drop x.toNat (List.take (to + 1).toNat w)) = lw w x (to + 1) := rfl
      rw [e] at u
      refine ⟨by omega, ⟨by omega, by omega, u.2, ?_⟩, by omega⟩
      rw [drop_gt (by omega) u.1] at g3
      simp only [greedyOn] at g3
      rw [lw_succ h0 (by omega) u.1] at u
      rw [if_neg (by omega)] at g3
      rw [lw_succ h0 (by omega) u.1, show wide - (lw w x to + gt w to + 1) = wide - lw w x to - (gt w to + 1) by omega]
      exact g3
    · refine ⟨⟨by omega, by omega, by simp; omega, ?_⟩, by omega⟩
      by_cases e : to = w.length
      · rw [List.drop_of_length_le (by omega)] at g3 ⊢
        exact g3
      · have e' : ¬ lineWide (List.drop x.toNat (List.take (to + 1).toNat w)) ≤ wide := fun c => u ⟨by omega, c⟩
        have e2 : lineWide (List.drop x.toNat (List.take (to + 1).toNat w)) = lw w x (to + 1) := rfl
        rw [e2, lw_succ h0 (by omega) (by omega)] at e'
        rw [drop_gt (by omega) (by omega)] at g3 ⊢
        simp only [greedyOn] at g3
        rw [if_pos (by omega)] at g3
        exact g3
  · rw [List.drop_of_length_le (by omega)] at h5
    rw [← h5]
    simp [greedyAt]

theorem law_sameInts_hC : Cons Try.prog [] := trivial
theorem law_sameInts_con : Con Try.prog f_law_sameInts law_sameInts_ct := law_sameInts_vc law_sameInts_hC fun a b h => by
  simp only [inI_iff, true_and, and_true, ne_eq, Int.reduceEq, not_false_eq_true, Int.toNat_zero, false_bo, true_bo, fitL] at *
  refine ⟨fun q e => q (by rw [e]), fun q => ⟨fun i => 0 ≤ i ∧ i ≤ a.length ∧ ∀ j : Int, 0 ≤ j → j < i → gt a j = gt b j, fun i => (a.length - i).toNat, ⟨by omega, by omega, fun j h1 h2 => by omega⟩, fun i ⟨h0, h1, h2⟩ => ?_⟩⟩
  dsimp only
  refine ⟨fun r => ⟨h0, r, h0, by omega, fun t e => t (by rw [e]), fun t => ⟨by omega, ⟨by omega, by omega, fun j j0 j1 => ?_⟩, by omega⟩⟩, fun r => ?_⟩
  · by_cases e : j = i
    · rw [e]; exact Classical.byContradiction t
    · exact h2 j j0 (by omega)
  · exact ext_gt (by omega) fun j j0 j1 => h2 j j0 (by omega)

theorem law_WrapGreedies_hC : Cons Try.prog [(f_wrap_Greedy, wrap_Greedy_ct), (f_ref_WrapGreedy, ref_WrapGreedy_ct), (f_law_sameInts, law_sameInts_ct)] := ⟨wrap_Greedy_con, ref_WrapGreedy_con, law_sameInts_con, trivial⟩
theorem law_WrapGreedies_con : Con Try.prog f_law_WrapGreedies law_WrapGreedies_ct := law_WrapGreedies_vc law_WrapGreedies_hC fun w wide h => by
  have : fitL (wrapGreedy w wide).1 := by
    have := greedyAt_len wide 0 w
    have := h.1.1
    unfold wrapGreedy fitL
    split
    · simp only; omega
    · simp
  exact ⟨trivial, trivial, ⟨this, this⟩, by simp⟩

end Go.Proofs.Ytcgggoaefceokaa
