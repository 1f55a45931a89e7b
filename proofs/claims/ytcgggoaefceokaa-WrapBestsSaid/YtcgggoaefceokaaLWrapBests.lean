/- The contracts of the functions that the law reaches, and that of the law. Conditions: none. -/
import Derived.Test.YtcgggoaefceokaaWWrapBests
set_option linter.unusedVariables false
set_option linter.unusedSimpArgs false
set_option maxRecDepth 100000
namespace Go.Proofs.Ytcgggoaefceokaa
open Go.Vc Go.Fu

theorem wrap_Check_hC : Cons Try.prog [] := trivial
theorem wrap_Check_con : Con Try.prog f_wrap_Check wrap_Check_ct := wrap_Check_vc wrap_Check_hC fun w wide _ => by
  simp only [inI_iff, true_and, and_true, ne_eq, Int.reduceEq, not_false_eq_true, Int.toNat_zero, wrapFault]
  refine ⟨fun q => by rw [if_pos (by omega)], fun q => ⟨fun r => by rw [if_neg (by omega), if_pos (by omega)], fun r => ⟨fun x f => 0 ≤ x ∧ x ≤ w.length ∧ f = wide ∧ ∀ j : Int, 0 ≤ j → j < x → 1 ≤ gt w j ∧ gt w j ≤ wide, fun x _ => (w.length - x).toNat, ⟨by omega, by omega, rfl, fun j a b => by omega⟩, ?_⟩⟩⟩
  rintro x f ⟨h0, h1, h2, h3⟩
  dsimp only
  subst h2
  refine ⟨fun t => ⟨h0, t, fun u => ⟨fun _ => by rw [if_neg (by omega), if_pos (.inr (.inr ⟨gt w x, gt_mem h0 t, u⟩))], fun c => by omega⟩, fun u => ⟨by omega, ⟨by omega, by omega, rfl, fun j a b => ?_⟩, by omega⟩⟩, fun t => ⟨fun c => by omega, fun _ => ?_⟩⟩
  · by_cases e : j = x
    · rw [e]; omega
    · exact h3 j a (by omega)
  · rw [if_neg (by omega), if_neg]
    rintro (c | c | ⟨n, hn, c⟩)
    · omega
    · omega
    · obtain ⟨j, a, b, rfl⟩ := mem_gt hn
      have := h3 j a (by omega)
      omega

theorem ref_WrapFault_hC : Cons Try.prog [] := trivial
theorem ref_WrapFault_con : Con Try.prog f_ref_WrapFault ref_WrapFault_ct := ref_WrapFault_vc ref_WrapFault_hC fun w wide _ => by
  simp only [inI_iff, true_and, and_true, ne_eq, Int.reduceEq, not_false_eq_true, Int.toNat_zero, wrapFault]
  refine ⟨fun q => by rw [if_pos (by omega)], fun q => ⟨fun r => by rw [if_neg (by omega), if_pos (by omega)], fun r => ⟨fun x => 0 ≤ x ∧ x ≤ w.length ∧ ∀ j : Int, 0 ≤ j → j < x → 1 ≤ gt w j ∧ gt w j ≤ wide, fun x => (w.length - x).toNat, ⟨by omega, by omega, fun j a b => by omega⟩, ?_⟩⟩⟩
  rintro x ⟨h0, h1, h3⟩
  dsimp only
  refine ⟨fun t => ⟨h0, t, fun u => by rw [if_neg (by omega), if_pos (.inr (.inr ⟨gt w x, gt_mem h0 t, u⟩))], fun u => ⟨by omega, ⟨by omega, by omega, fun j a b => ?_⟩, by omega⟩⟩, fun t => ?_⟩
  · by_cases e : j = x
    · rw [e]; omega
    · exact h3 j a (by omega)
  · rw [if_neg (by omega), if_neg]
    rintro (c | c | ⟨n, hn, c⟩)
    · omega
    · omega
    · obtain ⟨j, a, b, rfl⟩ := mem_gt hn
      have := h3 j a (by omega)
      omega

theorem ref_lineWide_hC : Cons Try.prog [] := trivial
theorem ref_lineWide_con : Con Try.prog f_ref_lineWide ref_lineWide_ct := ref_lineWide_vc ref_lineWide_hC fun w ⟨hw, hn⟩ => by
  simp only [inI_iff, true_and, and_true, ne_eq, Int.reduceEq, not_false_eq_true, Int.toNat_zero]
  refine ⟨by omega, fun n x => 0 ≤ x ∧ x ≤ w.length ∧ w.length - 1 ≤ n ∧ n ≤ w.length - 1 + x * 60 ∧ n + (w.drop x.toNat).sum = lineWide w, fun _ x => (w.length - x).toNat, ⟨by omega, by omega, by omega, by omega, by simp [lineWide]; omega⟩, ?_⟩
  rintro n x ⟨h0, h1, h2, h3, h4⟩
  dsimp only
  refine ⟨fun t => ?_, fun t => ?_⟩
  · have hg := hn _ (gt_mem h0 t)
    rw [drop_gt h0 t, List.sum_cons] at h4
    exact ⟨h0, t, by omega, by omega, ⟨by omega, by omega, by omega, by omega, by omega⟩, by omega⟩
  · rw [List.drop_of_length_le (by omega)] at h4
    simpa using h4

theorem ref_WrapCost_hC : Cons Try.prog [(f_ref_WrapFault, ref_WrapFault_ct), (f_ref_lineWide, ref_lineWide_ct)] := ⟨ref_WrapFault_con, ref_lineWide_con, trivial⟩
theorem ref_WrapCost_con : Con Try.prog f_ref_WrapCost ref_WrapCost_ct := ref_WrapCost_vc ref_WrapCost_hC fun w wide s hs => by
  simp only [inI_iff, true_and, and_true, ne_eq, Int.reduceEq, not_false_eq_true, Int.toNat_zero, fitI, fitL] at *
  refine ⟨fun q => by rw [wrapCost_a q]; exact ⟨rfl, rfl⟩, fun q => ?_⟩
  have q : wrapFault w wide = 0 := Classical.byContradiction q
  obtain ⟨f1, f2, f3, f4⟩ := wrapFault_ok.1 q
  have hw : ∀ i j : Nat, wideOk ((w.take j).drop i) := fun i j => ⟨by simp; omega, fun n hn => by have := f4 n (List.mem_of_mem_take (List.mem_of_mem_drop hn)); omega⟩
  refine ⟨fun c => ⟨fun d => ?_, fun d => ?_⟩, fun c => ⟨fun _ => by omega, fun _ => by omega, fun d => ?_, fun d => ?_⟩⟩
  · have : w = [] := List.length_eq_zero_iff.1 (by omega)
    subst this
    rw [wrapCost_none q (by omega) (cost_nil (by omega))]; exact ⟨rfl, rfl⟩
  · rw [wrapCost_b q (by omega), if_pos (by omega)]; exact ⟨rfl, rfl⟩
  · by_cases e : s.length = 0
    · rw [wrapCost_b q e, if_neg (by omega)]; exact ⟨rfl, rfl⟩
    · rw [wrapCost_at q e (by omega)]; exact ⟨rfl, rfl⟩
  · have hz : gt s 0 = 0 := by omega
    refine ⟨fun x => 0 ≤ x ∧ x ≤ s.length ∧ ∀ j : Int, 0 ≤ j → j < x → 0 ≤ gt s j ∧ gt s j < w.length ∧ (0 < j → gt s (j - 1) < gt s j), fun x => (s.length - x).toNat, ⟨by omega, by omega, fun j a b => by omega⟩, ?_⟩
    rintro x ⟨h0, h1, h2⟩
    dsimp only
    refine ⟨fun t => ⟨h0, t, fun _ => by omega, fun _ => by omega, fun _ => by omega, fun b => ?_, fun b => ⟨by omega, ⟨by omega, by omega, fun j j0 j1 => ?_⟩, by omega⟩⟩, fun t => ?_⟩
    · suffices h : ∃ y, 0 ≤ y ∧ y < (s.length : Int) ∧ ¬ lineOk w wide (gt s y) (nxt w s y) by
        obtain ⟨y, y0, y1, y2⟩ := h
        rw [wrapCost_none q (by omega) (cost_none y0 y1 y2)]; exact ⟨rfl, rfl⟩
      rcases b with b | b
      · refine ⟨x, h0, t, ?_⟩
        rintro ⟨a1, a2, a3, a4⟩
        omega
      · refine ⟨x - 1, by omega, by omega, ?_⟩
        rintro ⟨a1, a2, a3, a4⟩
        have : nxt w s (x - 1) = gt s x := by unfold nxt; rw [if_pos (by omega), show x - 1 + 1 = x by omega]
        omega
    · by_cases e : j = x
      · subst e; omega
      · exact h2 j j0 (by omega)
    · have ok : ∀ x : Int, 0 ≤ x → x < s.length → 0 ≤ gt s x ∧ gt s x < nxt w s x ∧ nxt w s x ≤ w.length := fun y y0 y1 => by
        have g1 := h2 y y0 (by omega)
        unfold nxt
        split
        · have g2 := h2 (y + 1) (by omega) (by omega)
          have := g2.2.2 (by omega)
          rw [show y + 1 - 1 = y by omega] at this
          omega
        · omega
      refine ⟨fun cost x => 0 ≤ x ∧ x < s.length ∧ 0 ≤ cost ∧ cost ≤ 3600 * x ∧ costGo w wide s = (costEnd w wide (s.drop x.toNat) w.length).map (cost + ·), fun _ x => (s.length - x).toNat, ⟨by omega, by omega, by omega, by omega, cost_start w s wide⟩, ?_⟩
      rintro cost x ⟨g0, g1, g2, g3, g4⟩
      dsimp only
      obtain ⟨k1, k2, k3⟩ := ok x g0 g1
      refine ⟨fun t => ⟨g0, t, by omega, fun u => ⟨k1, by have := (h2 x g0 (by omega)).2.1; omega, by omega, hw _ _, ?_⟩, fun u => ⟨by omega, by omega, by omega, k1, ?_⟩⟩, fun t => by omega⟩
      · have en : nxt w s x = w.length := if_neg (by omega)
        have eL : lineWide (List.drop (gt s x).toNat (List.take ((w.length : Int)).toNat w)) = lw w (gt s x) (nxt w s x) := by rw [en]; rfl
        rw [eL]
        refine ⟨fun b => ?_, fun b => ?_⟩
        · rw [wrapCost_none q (by omega) (cost_none g0 t fun ⟨a1, a2, a3, a4⟩ => by omega)]; exact ⟨rfl, rfl⟩
        · have st := cost_step g4 g0 t ⟨k1, k2, k3, by omega⟩
          rw [if_neg (by omega)] at st
          rw [wrapCost_some q (by omega) hz (cost_done st (by omega))]; exact ⟨by simp, rfl⟩
      · have en : nxt w s x = gt s (x + 1) := if_pos (by omega)
        have eL : lineWide (List.drop (gt s x).toNat (List.take (gt s (x + 1)).toNat w)) = lw w (gt s x) (nxt w s x) := by rw [en]; rfl
        rw [eL]
        rw [en] at k2 k3
        refine ⟨by omega, by omega, hw _ _, fun b => ?_, fun b => ?_⟩
        · rw [wrapCost_none q (by omega) (cost_none g0 t fun ⟨a1, a2, a3, a4⟩ => by omega)]; exact ⟨rfl, rfl⟩
        · have hk : lineOk w wide (gt s x) (nxt w s x) := ⟨k1, by omega, by omega, by omega⟩
          have bd := lw_bd f4 hk.1 hk.2.1 hk.2.2.1
          have st := cost_step g4 g0 t hk
          have sq := sq_le (a := wide - lw w (gt s x) (nxt w s x)) (by omega) (by omega)
          have sn := sq_nn (wide - lw w (gt s x) (nxt w s x))
          rw [if_pos (by omega)] at st
          generalize hf : (wide - lw w (gt s x) (nxt w s x)) * (wide - lw w (gt s x) (nxt w s x)) = f at *
          exact ⟨by omega, by omega, by omega, by omega, by omega, ⟨by omega, by omega, by omega, by omega, st⟩, by omega⟩

theorem ref_WrapLeast_hC : Cons Try.prog [(f_ref_lineWide, ref_lineWide_ct)] := ⟨ref_lineWide_con, trivial⟩
theorem ref_WrapLeast_con : Con Try.prog f_ref_WrapLeast ref_WrapLeast_ct := ref_WrapLeast_vc ref_WrapLeast_hC fun w wide q => by
  simp only [inI_iff, true_and, and_true, ne_eq, Int.reduceEq, not_false_eq_true, Int.toNat_zero] at *
  obtain ⟨f1, f2, f3, f4⟩ := wrapFault_ok.1 q
  have f5 : ∀ n ∈ w, 1 ≤ n := fun n hn => (f4 n hn).1
  have hw : ∀ i j : Nat, wideOk ((w.take j).drop i) := fun i j => ⟨by simp; omega, fun n hn => by have := f4 n (List.mem_of_mem_take (List.mem_of_mem_drop hn)); omega⟩
  refine ⟨fun to best => 1 ≤ to ∧ to ≤ w.length + 1 ∧ best.length = to ∧ ∀ j, 0 ≤ j → j < to → rchLeast w wide j (gt best j) ∧ gt best j ≤ 3600 * j, fun to _ => (w.length + 1 - to).toNat, ⟨by omega, by omega, by simp, fun j a b => ?_⟩, ?_⟩
  · have e : j = 0 := by omega
    subst e
    exact ⟨rchLeast_zero w wide, by simp [gt]⟩
  rintro to best ⟨h0, h1, h2, h3⟩
  dsimp only
  refine ⟨fun t => ⟨by omega, fun least fr => -1 ≤ fr ∧ fr < to ∧ ((least = -1 ∧ fr = to - 1) ∨ (fr < to - 1 ∧ ∃ f, fr < f ∧ lineOk w wide f to ∧ least = gt best f + ec w wide f to ∧ ∀ f', fr < f' → lineOk w wide f' to → least ≤ gt best f' + ec w wide f' to)), fun _ fr => (fr + 1).toNat, ⟨by omega, by omega, .inl ⟨rfl, rfl⟩⟩, ?_⟩, fun t => ?_⟩
  · rintro least fr ⟨g0, g1, g2⟩
    dsimp only
    have eL : lineWide (List.drop fr.toNat (List.take to.toNat w)) = lw w fr to := rfl
    simp only [eL]
    refine ⟨fun z => z, fun _ => by omega, fun _ => by omega, fun _ => hw _ _, fun u => ?_, fun u => ?_⟩
    · have hk : lineOk w wide fr to := ⟨u.1, by omega, t, u.2⟩
      have bd := lw_bd f4 hk.1 hk.2.1 hk.2.2.1
      have sq := sq_le (a := wide - lw w fr to) (by omega) (by omega)
      have sn := sq_nn (wide - lw w fr to)
      obtain ⟨b1, b2⟩ := h3 fr u.1 (by omega)
      have b3 := (rch_nn b1.1).1
      have ec' : iteP (to < (w.length : Int)) (gt best fr + (wide - lw w fr to) * (wide - lw w fr to)) (gt best fr) = gt best fr + ec w wide fr to := by
        rw [iteP_if]
        unfold ec
        split <;> simp
      rw [ec']
      have ecb := ec_bd f4 f3 hk
      have ecn := ec_nn w wide fr to
      generalize hf : (wide - lw w fr to) * (wide - lw w fr to) = f at *
      refine ⟨u.1, by omega, fun _ => u.1, fun _ => by omega, fun _ => by omega, fun _ => hw _ _, fun _ => by omega, fun _ => by omega, fun _ => by omega, by omega, ⟨by omega, by omega, ?_⟩, by omega⟩
      by_cases c : least < 0 ∨ gt best fr + ec w wide fr to < least
      · rw [iteP_pos c]
        refine .inr ⟨by omega, fr, by omega, hk, rfl, fun f' a1 a2 => ?_⟩
        by_cases z : f' = fr
        · subst z; omega
        · rcases g2 with ⟨g2, g3⟩ | ⟨g3, f0, p1, p2, p3, p4⟩
          · have := a2.2.1; omega
          · have := p4 f' (by omega) a2
            have hb := h3 f0 (by omega) (by have := p2.2.1; omega)
            have := (rch_nn hb.1.1).1
            have := ec_nn w wide f0 to
            omega
      · rw [iteP_neg c]
        rcases g2 with ⟨g2, g3⟩ | ⟨g3, f0, p1, p2, p3, p4⟩
        · omega
        · refine .inr ⟨by omega, f0, by omega, p2, p3, fun f' a1 a2 => ?_⟩
          by_cases z : f' = fr
          · subst z; omega
          · exact p4 f' (by omega) a2
    · have hl : best.length ≤ 81 := by omega
      refine ⟨by omega, by omega, ⟨by omega, by omega, by simp; omega, fun j a b => ?_⟩, by omega⟩
      by_cases z : j = to
      · subst z
        rw [show gt (best ++ [least]) j = least by rw [← h2]; exact gt_append_last]
        rcases g2 with ⟨g2, g3⟩ | ⟨g3, f0, p1, p2, p3, p4⟩
        · refine absurd ⟨by omega, ?_⟩ u
          have hg := f4 _ (gt_mem (l := w) (i := fr) (by omega) (by omega))
          rw [show j = fr + 1 by omega, lw_succ (by omega) (by omega) (by omega), lw_self (by omega)]
          omega
        · have hb := h3 f0 (by omega) (by have := p2.2.1; omega)
          have ecb := ec_bd f4 f3 p2
          have := p2.2.1
          refine ⟨?_, by omega⟩
          rw [p3]
          refine rchLeast_step (by omega) p2 hb.1 fun i' hi' => ⟨gt best i', (h3 i' hi'.1 hi'.2.1).1, ?_⟩
          rw [← p3]
          refine p4 i' ?_ hi'
          rcases Int.lt_or_le fr i' with c | c
          · exact c
          · have := lw_left f5 hi'.1 c (by omega) t
            exact absurd ⟨by have := hi'.1; omega, by have := hi'.2.2.2; omega⟩ u
      · rw [gt_append_l a (by omega)]
        exact h3 j a (by omega)
  · refine ⟨by omega, by omega, ?_⟩
    have hb := (h3 w.length (by omega) (by omega)).1
    exact (wrapLeast_eq ⟨hb.1, hb.2⟩).symm

theorem law_WrapBests_hC : Cons Try.prog [(f_wrap_Check, wrap_Check_ct), (f_ref_WrapFault, ref_WrapFault_ct), (f_ref_WrapCost, ref_WrapCost_ct), (f_ref_WrapLeast, ref_WrapLeast_ct)] := ⟨wrap_Check_con, ref_WrapFault_con, ref_WrapCost_con, ref_WrapLeast_con, trivial⟩
theorem law_WrapBests_con : Con Try.prog f_law_WrapBests law_WrapBests_ct := law_WrapBests_vc law_WrapBests_hC fun w wide hyp => by
  simp only [inI_iff, true_and, and_true, ne_eq, Int.reduceEq, not_false_eq_true, Int.toNat_zero, fitI, fitL] at *
  refine ⟨fun q => ⟨fun _ => by simp, fun c => absurd q c⟩, fun q => ?_⟩
  have q : wrapFault w wide = 0 := Classical.byContradiction q
  obtain ⟨f1, f2, f3, f4⟩ := wrapFault_ok.1 q
  have f5 : ∀ n ∈ w, 1 ≤ n := fun n hn => (f4 n hn).1
  refine ⟨by omega, by omega, by omega, by omega, by omega, by omega, by omega, fun i cost next => -1 ≤ i ∧ i < w.length ∧ cost.length = w.length + 1 ∧ next.length = w.length + 1 ∧ ∀ j, i < j → j ≤ w.length → bestOk w wide cost next j, fun i _ _ => (i + 1).toNat, ⟨by omega, by omega, by simp <;> omega, by simp <;> omega, fun j a b => ?_⟩, ?_⟩
  · have e : j = w.length := by omega
    subst e
    refine ⟨?_, ?_, fun c => by omega⟩
    · rw [gt_rep (by omega) (by omega)]; exact wbLeast_end w wide
    · rw [gt_rep (by omega) (by omega)]; omega
  rintro i cost next ⟨h0, h1, h2, h3, h4⟩
  dsimp only
  refine ⟨fun t => ⟨t, by omega, by omega, fun free k cost next => i ≤ k ∧ k ≤ w.length ∧ cost.length = w.length + 1 ∧ next.length = w.length + 1 ∧ free = wide - lw w i k ∧ (∀ j, i < j → j ≤ w.length → bestOk w wide cost next j) ∧ bestAt w wide cost next i k, fun _ k _ _ => (w.length - k).toNat, ⟨by omega, by omega, by simp; omega, by omega, by rw [lw_self t]; omega, fun j a b => ?_, .inl ⟨rfl, gt_set_eq t (by omega)⟩⟩, ?_⟩, fun t => ?_⟩
  · exact bestOk_congr (fun k' hk' => gt_set_ne t (by omega) (by omega)) rfl (h4 j a b)
  · rintro free k cost next ⟨g0, g1, g2, g3, g4, g5, g6⟩
    dsimp only
    have hn := cost_n (g5 w.length h1 (by omega))
    refine ⟨fun u => ?_, fun u => ⟨by omega, ⟨by omega, by omega, by omega, by omega, fun j a b => ?_⟩, by omega⟩⟩
    · have hg := f4 _ (gt_mem (l := w) (i := k) (by omega) u)
      have e : free - (gt w k + 1) = wide - lw w i (k + 1) := by rw [lw_succ t g0 u]; omega
      have bd := lw_bd f4 t (show i < k + 1 by omega) (by omega)
      have hfree : -61 * 100 ≤ free ∧ free ≤ 61 := by
        by_cases z : i = k
        · subst z; rw [g4, lw_self t]; omega
        · have bd := lw_bd f4 t (show i < k by omega) (by omega)
          have := Int.mul_le_mul (show wide + 1 ≤ 61 by omega) (show k - i ≤ 80 by omega) (by omega) (by omega)
          omega
      refine ⟨by omega, u, by omega, by omega, fun v => ⟨by omega, ⟨by omega, by omega, by omega, by omega, fun j a b => ?_⟩, by omega⟩, fun v => ?_⟩
      · by_cases z : j = i
        · subst z
          refine best_fin f4 f3 h1 (k := k) ?_ g5 g6 fun k' a1 a2 => ?_
          · rcases g6 with ⟨z, _⟩ | z
            · subst z
              rw [e, lw_succ t (by omega) u, lw_self t] at v
              omega
            · exact z.1
          · have := lw_right (j := k + 1) (k := k') f5 t (by omega) (by omega) a2.2.2.1
            have := a2.2.2.2
            omega
        · exact g5 j (by omega) b
      · rw [e] at v ⊢
        have hk : lineOk w wide i (k + 1) := ⟨t, by omega, by omega, by omega⟩
        have sq := sq_le (a := wide - lw w i (k + 1)) (by omega) (by omega)
        have sn := sq_nn (wide - lw w i (k + 1))
        have b1 := g5 (k + 1) (by omega) (by omega)
        have b2 := wb_nn b1.1.1
        have b3 := b1.2.1
        have ec' : iteP (k + 1 < (w.length : Int)) ((wide - lw w i (k + 1)) * (wide - lw w i (k + 1)) + gt cost (k + 1)) 0 = ec w wide i (k + 1) + gt cost (k + 1) := by
          rw [iteP_if]
          unfold ec
          split
          · rfl
          · rw [show k + 1 = w.length by omega, hn]; rfl
        rw [ec']
        have ecb := ec_bd f4 f3 hk
        have ecn := ec_nn w wide i (k + 1)
        generalize hf : (wide - lw w i (k + 1)) * (wide - lw w i (k + 1)) = f at *
        refine ⟨by omega, fun _ => by omega, fun _ => by omega, fun _ => by omega, fun _ => by omega, fun _ => by omega, t, by omega, fun _ => t, fun _ => by omega, fun c => ⟨by omega, t, by omega, t, by omega, by omega, ⟨by omega, by omega, by simp; omega, by simp; omega, rfl, fun j a b => ?_, ?_⟩, by omega⟩, fun c => ⟨by omega, ⟨by omega, by omega, by omega, by omega, rfl, g5, ?_⟩, by omega⟩⟩
        · exact bestOk_congr (fun k' hk' => gt_set_ne t (by omega) (by omega)) (gt_set_ne t (by omega) (by omega)) (g5 j a b)
        · have en : gt (next.set i.toNat (k + 1)) i = k + 1 := gt_set_eq t (by omega)
          have ec1 : gt (cost.set i.toNat (ec w wide i (k + 1) + gt cost (k + 1))) i = ec w wide i (k + 1) + gt cost (k + 1) := gt_set_eq t (by omega)
          have eo : ∀ j, i < j → gt (cost.set i.toNat (ec w wide i (k + 1) + gt cost (k + 1))) j = gt cost j := fun j hj => gt_set_ne t (by omega) (by omega)
          refine .inr ⟨by omega, by rw [en]; exact hk, by rw [en, ec1, eo _ (by omega)], fun k' a1 a2 a3 => ?_⟩
          rw [ec1, eo _ a1]
          by_cases z : k' = k + 1
          · subst z; omega
          · rcases g6 with ⟨g6, _⟩ | ⟨_, g6, g7, g8⟩
            · omega
            · have := g8 k' a1 (by omega) a3
              have := wb_nn (g5 (gt next i) g6.2.1 g6.2.2.1).1.1
              have := ec_nn w wide i (gt next i)
              omega
        · rcases g6 with ⟨_, g6⟩ | ⟨g6', g6, g7, g8⟩
          · omega
          · refine .inr ⟨by omega, g6, g7, fun k' a1 a2 a3 => ?_⟩
            by_cases z : k' = k + 1
            · subst z; omega
            · exact g8 k' a1 (by omega) a3
    · by_cases z : j = i
      · subst z
        exact best_fin f4 f3 h1 (k := k) (by omega) g5 g6 fun k' a1 a2 => by have := a2.2.2.1; omega
      · exact g5 j (by omega) b
  · have e : i = -1 := by omega
    subst e
    refine ⟨fun i out => 0 ≤ i ∧ i ≤ w.length ∧ out.length ≤ i ∧ (i = 0 → out = []) ∧ (0 < i → out ≠ [] ∧ gt out 0 = 0) ∧ ∃ c, costEnd w wide out i = some c ∧ c + gt cost i = gt cost 0, fun i _ => (w.length - i).toNat, ⟨by omega, by omega, by simp, fun _ => rfl, fun c => by omega, 0, rfl, by omega⟩, ?_⟩
    rintro i out ⟨g0, g1, g2, g3, g4, c, g5, g6⟩
    dsimp only
    refine ⟨fun u => ?_, fun u => ?_⟩
    · obtain ⟨b1, b2, b3⟩ := h4 i (by omega) (by omega)
      obtain ⟨b4, b5⟩ := b3 u
      obtain ⟨b6, b7, b8, b9⟩ := b4
      refine ⟨by omega, g0, by omega, ⟨by omega, by omega, by simp; omega, fun c => by omega, fun _ => ⟨by simp, ?_⟩, c + ec w wide i (gt next i), costEnd_snoc g5 (fun _ => rfl) ⟨b6, b7, b8, b9⟩, by omega⟩, by omega⟩
      by_cases z : i = 0
      · rw [g3 z, z]; rfl
      · have := g4 (by omega)
        have hl := List.length_pos_iff.2 this.1
        rw [gt_append_l (by omega) (by omega)]; exact this.2
    · have e : i = w.length := by omega
      subst e
      have hn := cost_n (h4 w.length (by omega) (by omega))
      have h00 := (h4 0 (by omega) (by omega)).1
      have hl := wrapLeast_eq (wb_leastOk h00)
      refine ⟨fun c => absurd q c, fun _ => ⟨by omega, fun _ => q, ?_⟩⟩
      simp only [bo_true]
      by_cases z : out.length = 0
      · have z' : w.length = 0 := by
          rcases Nat.eq_zero_or_pos w.length with y | y
          · exact y
          · exact absurd (List.length_eq_zero_iff.1 z) (g4 (by omega)).1
        rw [wrapCost_b q z, if_pos z', hl]
        rw [z'] at hn
        exact ⟨rfl, hn.symm⟩
      · have hz : 0 < w.length := by omega
        rw [wrapCost_some q z (g4 (by omega)).2 g5, hl]
        exact ⟨rfl, by simp only; omega⟩

end Go.Proofs.Ytcgggoaefceokaa
