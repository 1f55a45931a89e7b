/- The contracts of the functions that the law reaches, and that of the law. Conditions: none. -/
import Derived.Test.YtkemhbclkglmbaaWTopTyped
import Derived.Test.YtkemhbclkglmbaaRep
set_option linter.unusedVariables false
set_option linter.unusedSimpArgs false
set_option maxRecDepth 100000
namespace Go.Proofs.Ytkemhbclkglmbaa
open Go.Vc Go.Fu

theorem keep_Picked_hC : Cons Try.prog [] := trivial
theorem keep_Picked_con : Con Try.prog f_keep_Picked keep_Picked_ct := keep_Picked_vc keep_Picked_hC fun a n ⟨h1, h2, h3⟩ => by
  have h2 : 0 < n := h2
  have h3 : n ≤ 1000000 := h3
  have e := Int.tmod_eq_emod (a := a) (b := n)
  have e1 := Int.emod_nonneg a (show n ≠ 0 by omega)
  have e2 := Int.emod_lt_of_pos a h2
  unfold pickOf
  by_cases q : 0 ≤ a ∨ n ∣ a
  · rw [if_pos q] at e
    refine ⟨by omega, fun c => ⟨by unfold inI64; omega, by omega⟩, fun c => by omega⟩
  · rw [if_neg q] at e
    refine ⟨by omega, fun c => ⟨by unfold inI64; omega, by omega⟩, fun c => by omega⟩

theorem keep_Few_hC : Cons Try.prog [(f_keep_Picked, keep_Picked_ct)] := ⟨keep_Picked_con, trivial⟩
theorem keep_Few_con : Con Try.prog f_keep_Few keep_Few_ct := keep_Few_vc keep_Few_hC fun l n ⟨h1, h2, h3⟩ => by
  have h1 : ∀ i ∈ l, inI64 i := h1
  have h2 : 0 ≤ n := h2
  have h3 : n ≤ 1000 := h3
  refine ⟨fun out i => 0 ≤ i ∧ i ≤ l.length ∧ i ≤ n ∧ out = fewOf l i, fun _ i => (n - i).toNat, ⟨by omega, by omega, h2, by simp [fewOf]⟩, ?_⟩
  rintro out i ⟨i0, i1, i2, rfl⟩
  have fl := few_len l i
  refine ⟨fun t => ?_, fun t => ?_⟩
  · rw [few_one]
    have hp : 0 ≤ pickOf (gt l i) 2 ∧ pickOf (gt l i) 2 < 2 := by unfold pickOf; omega
    refine ⟨i0, t.1, ⟨h1 _ (gt_mem i0 t.1), (show (0 : Int) < 2 by decide), (show (2 : Int) ≤ 1000000 by decide)⟩, hp.1, hp.2, by simp only [List.length_singleton]; unfold inI64; omega, by unfold inI64; omega, ⟨by omega, by omega, by omega, (few_succ i0 t.1).symm⟩, by dsimp only; omega⟩
  · by_cases c : i = n
    · rw [c]
    · have : i = l.length := by omega
      unfold fewOf
      rw [List.take_of_length_le (by omega), List.take_of_length_le (by omega)]

theorem find_fault_hC : Cons Try.prog [] := trivial
theorem find_fault_con : Con Try.prog f_find_fault find_fault_ct := find_fault_vc find_fault_hC fun t f _ => by
  simp only [findFault]
  refine ⟨fun q => by rw [if_pos (by omega)], fun q => ?_⟩
  rw [if_neg (by omega)]
  exact ⟨fun r => by rw [if_pos r], fun r => by rw [if_neg r]⟩

theorem find_border_hC : Cons Try.prog [] := trivial
theorem find_border_con : Con Try.prog f_find_border find_border_ct := find_border_vc find_border_hC fun s hs => by
  simp only [inI_iff, true_and, and_true, ne_eq, Int.reduceEq, not_false_eq_true, Int.toNat_zero]
  refine ⟨by omega, by omega, fun n i out => 1 ≤ i ∧ (i ≤ s.length ∨ i = 1) ∧ out.length = s.length ∧ n = bord s i ∧ ∀ j, 0 ≤ j → j < i → j < s.length → gt out j = bord s (j + 1), fun _ i _ => (s.length - i).toNat, ?_, ?_⟩
  · have b1 : bord s 1 = 0 := bord_eq ⟨isBord_zero (by omega), fun j hj => by have := hj.2.1; omega⟩
    refine ⟨by omega, by omega, by simp, b1.symm, fun j h0 h1 h2 => ?_⟩
    rw [gt_rep h0 (by omega), show j + 1 = 1 by omega, b1]
  · rintro n i out ⟨h1, h2, h3, h4, h5⟩
    dsimp only
    refine ⟨fun q => ?_, fun q => ?_⟩
    · have hb := bord_ok (s := s) h1
      rw [← h4] at hb
      refine ⟨fun m => 0 ≤ m ∧ m < i ∧ isBord s i m ∧ ∀ k, 1 ≤ k → isBord s (i + 1) k → k - 1 ≤ m, fun m => m.toNat, ⟨hb.1.1, hb.1.2.1, hb.1, fun k hk hbk => hb.2 _ (isBord_pred hbk hk).1⟩, ?_⟩
      rintro m ⟨m0, m1, m2, m3⟩
      dsimp only
      refine ⟨fun _ => by omega, fun _ => by omega, fun _ => by omega, fun _ => by omega, fun r => ?_, fun r => ?_⟩
      · have e : gt out (m - 1) = bord s m := by rw [h5 (m - 1) (by omega) (by omega) (by omega)]; congr 1; omega
        have ok := bord_ok (s := s) (n := m) (by omega)
        have lt := ok.1.2.1
        have nn := ok.1.1
        rw [e]
        refine ⟨by omega, by omega, by omega, ⟨nn, by omega, isBord_trans m2 ok.1, fun k hk hbk => ?_⟩, by omega⟩
        obtain ⟨p1, p2⟩ := isBord_pred hbk hk
        have := m3 k hk hbk
        have hne : k - 1 ≠ m := fun e => by rw [e] at p2; exact r.2 p2.symm
        exact ok.2 _ (isBord_down m2 p1 (by omega))
      · have nx : iteP (gt s i = gt s m) (m + 1) m = bord s (i + 1) := by
          symm
          by_cases e : gt s i = gt s m
          · rw [iteP_pos e]
            refine bord_eq ⟨isBord_succ m2 e.symm, fun j hj => ?_⟩
            by_cases hj1 : 1 ≤ j
            · have := m3 j hj1 hj; omega
            · omega
          · rw [iteP_neg e]
            have hm : m = 0 := Classical.byContradiction fun hm => r ⟨by omega, e⟩
            rw [hm]
            refine bord_eq ⟨isBord_zero (by omega), fun j hj => ?_⟩
            by_cases hj1 : 1 ≤ j
            · have a1 := m3 j hj1 hj
              have a2 := (isBord_pred hj hj1).2
              rw [show j - 1 = m by omega] at a2
              exact (e a2.symm).elim
            · omega
        rw [nx]
        refine ⟨by omega, q, m0, by omega, fun _ => by omega, by omega, by omega, by omega, ⟨by omega, by omega, by simpa using h3, rfl, fun j j0 j1 j2 => ?_⟩, by omega⟩
        by_cases e : j = i
        · rw [e, gt_set_eq (by omega) (by omega)]
        · rw [gt_set_ne (by omega) j0 (fun h => e h.symm)]
          exact h5 j j0 (by omega) j2
    · refine ext_gt (by rw [borders_len]; exact h3) fun j j0 j1 => ?_
      rw [borders_gt j0 (by omega)]
      exact h5 j j0 (by omega) (by omega)

theorem find_In_hC : Cons Try.prog [(f_find_border, find_border_ct)] := ⟨find_border_con, trivial⟩
theorem find_In_con : Con Try.prog f_find_In find_In_ct := find_In_vc find_In_hC fun t f ⟨h1, h2, h3⟩ => by
  have hf : 0 < f.length := List.length_pos_iff.2 h3
  have bl := borders_len f
  simp only [inI_iff, true_and, and_true, ne_eq, Int.reduceEq, not_false_eq_true, Int.toNat_zero]
  refine ⟨by omega, fun n x out => 0 ≤ x ∧ x ≤ t.length ∧ isPre t f x n ∧ (∀ k, isPre t f x k → k ≤ n) ∧ out = pls (stands t f) (x - f.length + 1), fun _ x _ => (t.length - x).toNat, ⟨by omega, by omega, isPre_zero (by omega), fun k h => by have := h.2.1; omega, by rw [pls_zero (by omega)]⟩, ?_⟩
  rintro n x out ⟨g0, g1, g2, g3, g4⟩
  dsimp only
  have hol : out.length ≤ 100001 := by
    have := pls_len (P := stands t f) (x - f.length + 1); rw [g4]; omega
  refine ⟨fun u => ?_, fun u => ?_⟩
  · refine ⟨fun m => isPre t f x m ∧ ∀ k, 1 ≤ k → isPre t f (x + 1) k → k - 1 ≤ m, fun m => m.toNat, ⟨g2, fun k hk hp => g3 _ (isPre_pred hp hk).1⟩, ?_⟩
    rintro m ⟨m1, m2⟩
    dsimp only
    have m0 := m1.1
    have mx := m1.2.1
    have mf := m1.2.2.1
    refine ⟨fun _ => g0, fun _ => u, fun _ => m0, fun _ => by omega, fun r => ?_, fun r => ?_⟩
    · have e : gt (borders f) (m - 1) = bord f m := by rw [borders_gt (by omega) (by omega)]; congr 1; omega
      rw [e]
      have ok := bord_ok (s := f) (n := m) (by omega)
      refine ⟨by omega, by omega, by omega, ⟨isPre_bord m1 ok.1, fun k hk hp => ?_⟩, by have := ok.1.1; have := ok.1.2.1; omega⟩
      obtain ⟨p1, p2⟩ := isPre_pred hp hk
      have := m2 k hk hp
      have hkf := hp.2.2.1
      have hne : k - 1 ≠ m := fun e => by
        rcases r.2 with r | r
        · omega
        · rw [e] at p2; exact r p2.symm
      exact ok.2 _ (isPre_down m1 p1 (by omega))
    · have hmf : m < f.length := by
        by_cases c : 0 < m
        · have : ¬ m = f.length := fun e => r ⟨c, .inl e⟩
          omega
        · omega
      refine ⟨g0, u, m0, hmf, fun _ => by omega, ?_⟩
      have nx : isPre t f (x + 1) (iteP (gt t x = gt f m) (m + 1) m) ∧ ∀ k, isPre t f (x + 1) k → k ≤ iteP (gt t x = gt f m) (m + 1) m := by
        by_cases e : gt t x = gt f m
        · rw [iteP_pos e]
          refine ⟨isPre_succ m1 hmf e.symm, fun k hk => ?_⟩
          by_cases c : 1 ≤ k
          · have := m2 k c hk; omega
          · omega
        · rw [iteP_neg e]
          have hm : m = 0 := Classical.byContradiction fun c => r ⟨by omega, .inr e⟩
          subst hm
          refine ⟨isPre_zero (by omega), fun k hk => ?_⟩
          by_cases c : 1 ≤ k
          · have := m2 k c hk
            have hk1 : k = 1 := by omega
            subst hk1
            have := (isPre_pred hk (by omega)).2
            exact (e this.symm).elim
          · omega
      generalize iteP (gt t x = gt f m) (m + 1) m = nn at *
      obtain ⟨n1, n2⟩ := nx
      have nb := n1.2.1
      refine ⟨fun w => ?_, fun w => ?_⟩
      · have hs : stands t f (x + 1 - f.length) := (isPre_full (by omega)).1 (w ▸ n1)
        refine ⟨by omega, by omega, by omega, by omega, ⟨by omega, by omega, n1, n2, ?_⟩, by omega⟩
        have hxf := hs.1
        rw [w, g4, show x + 1 - (f.length : Int) + 1 = (x + 1 - f.length) + 1 by omega, pls_pos (n := x + 1 - f.length) hxf hs, show x - (f.length : Int) + 1 = x + 1 - f.length by omega]
      · refine ⟨by omega, ⟨by omega, by omega, n1, n2, ?_⟩, by omega⟩
        rw [g4, show x + 1 - (f.length : Int) + 1 = (x - f.length + 1) + 1 by omega]
        by_cases c : 0 ≤ x - (f.length : Int) + 1
        · rw [pls_neg c fun hs => w ?_]
          have := (isPre_full (text := t) (find := f) (i := x + 1) (by omega)).2 (by rw [show x + 1 - (f.length : Int) = x - f.length + 1 by omega]; exact hs)
          have := n2 _ this
          have := n1.2.2.1
          omega
        · rw [pls_zero (by omega), pls_zero (by omega)]
  · rw [g4]
    unfold findAt
    have hx : x = t.length := by omega
    subst hx
    by_cases c : 0 ≤ (t.length : Int) - f.length + 1
    · exact (pls_more c (by omega) fun i a b h => by have := h.2.1; omega).symm
    · rw [pls_zero (by omega), pls_more (P := stands t f) (n := 0) (m := t.length) (by omega) (by omega) fun i a b h => by have := h.2.1; omega, pls_zero (by omega)]

theorem find_All_hC : Cons Try.prog [(f_find_fault, find_fault_ct), (f_find_In, find_In_ct)] := ⟨find_fault_con, find_In_con, trivial⟩
theorem find_All_con : Con Try.prog f_find_All find_All_ct := find_All_vc find_All_hC fun t f _ => by
  simp only [findAll]
  refine ⟨trivial, fun q => by rw [if_neg q]; exact ⟨rfl, rfl⟩, fun q => ?_⟩
  have q : findFault t f = 0 := Classical.byContradiction q
  rw [if_pos q]
  obtain ⟨a, b, c⟩ := findFault_ok.1 q
  exact ⟨⟨by omega, by omega, c⟩, rfl, rfl⟩
theorem find_Replace_con : Con Try.prog f_find_Replace find_Replace_ct := replace_con find_fault_con find_In_con

theorem cursors_lo_hC : Cons Try.prog [] := trivial
theorem cursors_lo_con : Con Try.prog f_cursors_lo cursors_lo_ct := cursors_lo_vc cursors_lo_hC fun c _ => rfl

theorem cursors_hi_hC : Cons Try.prog [] := trivial
theorem cursors_hi_con : Con Try.prog f_cursors_hi cursors_hi_ct := cursors_hi_vc cursors_hi_hC fun c _ => rfl

theorem cursors_fault_hC : Cons Try.prog [(f_cursors_lo, cursors_lo_ct), (f_cursors_hi, cursors_hi_ct)] := ⟨cursors_lo_con, cursors_hi_con, trivial⟩
theorem cursors_fault_con : Con Try.prog f_cursors_fault cursors_fault_ct := cursors_fault_vc cursors_fault_hC fun size l h => by
  simp only [inI_iff, true_and, and_true, ne_eq, Int.reduceEq, not_false_eq_true, Int.toNat_zero, prod_eta] at *
  refine ⟨fun a => (fault_a (by omega)).symm, fun a => ⟨fun b => (fault_b (by omega) b).symm, fun b => ⟨fun x f => 0 ≤ x ∧ x ≤ l.length ∧ f = size ∧ ∀ j : Int, 0 ≤ j → j < x → 0 ≤ cLo (gt l j) ∧ cHi (gt l j) ≤ size, fun x _ => (l.length - x).toNat, ⟨by omega, by omega, rfl, fun j a b => by omega⟩, ?_⟩⟩⟩
  rintro x f ⟨x0, x1, rfl, hx⟩
  have a' : ¬ 20 < l.length := by omega
  refine ⟨fun t => ⟨x0, t, fun _ => trivial, fun q => ⟨fun _ => (fault_c a' b x0 t q).symm, fun z => absurd x0 z⟩, fun q => ⟨by omega, ⟨by omega, by omega, rfl, fun j j0 j1 => ?_⟩, by dsimp only; omega⟩⟩, fun t => ⟨fun z => by omega, fun _ => (fault_d a' b fun j j0 j1 => hx j j0 (by omega)).symm⟩⟩
  by_cases e : j = x
  · subst e; omega
  · exact hx j j0 (by omega)

theorem cursors_both_hC : Cons Try.prog [(f_cursors_lo, cursors_lo_ct), (f_cursors_hi, cursors_hi_ct)] := ⟨cursors_lo_con, cursors_hi_con, trivial⟩
theorem cursors_both_con : Con Try.prog f_cursors_both cursors_both_ct := cursors_both_vc cursors_both_hC fun a b h => by
  exact ⟨trivial, trivial, trivial, fun c => (both_pos c).symm, fun c => (both_neg c).symm⟩

theorem slices_Clone___api_Cursor_api_Cursor__hC : Cons Try.prog [] := trivial
theorem slices_Clone___api_Cursor_api_Cursor__con : Con Try.prog f_slices_Clone___api_Cursor_api_Cursor_ slices_Clone___api_Cursor_api_Cursor__ct := slices_Clone___api_Cursor_api_Cursor__vc slices_Clone___api_Cursor_api_Cursor__hC fun s hs nl hn => by
  refine ⟨fun c => ?_, fun c => ⟨by simp only [fitM] at hs; omega, rfl⟩⟩
  have := hn c
  exact (List.length_eq_zero_iff.1 (by omega)).symm

theorem cmp_isNaN_int__hC : Cons Try.prog [] := trivial
theorem cmp_isNaN_int__con : Con Try.prog f_cmp_isNaN_int_ cmp_isNaN_int__ct := cmp_isNaN_int__vc cmp_isNaN_int__hC fun x _ => by
  rw [bo_false]; exact fun h => h rfl

theorem cmp_Compare_int__hC : Cons Try.prog [(f_cmp_isNaN_int_, cmp_isNaN_int__ct)] := ⟨cmp_isNaN_int__con, trivial⟩
theorem cmp_Compare_int__con : Con Try.prog f_cmp_Compare_int_ cmp_Compare_int__ct := cmp_Compare_int__vc cmp_Compare_int__hC fun x y _ => by
  refine ⟨trivial, trivial, fun h => absurd h (by decide), fun _ => ⟨fun h => absurd h (by decide), fun _ => ⟨fun h => ?_, fun h => ⟨fun h2 => ?_, fun h2 => ?_⟩⟩⟩⟩ <;> unfold cmpI
  · rw [if_pos h]
  · rw [if_neg h, if_pos h2]
  · rw [if_neg h, if_neg h2]

theorem cmp_Or_int__hC : Cons Try.prog [] := trivial
theorem cmp_Or_int__con : Con Try.prog f_cmp_Or_int_ cmp_Or_int__ct := cmp_Or_int__vc cmp_Or_int__hC fun l h => by
  refine ⟨fun x => 0 ≤ x ∧ x ≤ l.length ∧ orL (l.drop x.toNat) = orL l, fun x => (l.length - x).toNat, ⟨by omega, by omega, rfl⟩, ?_⟩
  rintro x ⟨x0, x1, x2⟩
  have hf : (l.length : Int) ≤ 140737488351232 := by unfold fitL at h; omega
  refine ⟨fun hx => ⟨x0, hx, fun c => ?_, fun c => ⟨by unfold inI64; omega, ⟨by omega, by omega, ?_⟩, by dsimp only; omega⟩⟩, fun hx => ?_⟩
  · rw [← x2, drop_gt x0 hx, orL, if_pos c]
  · rw [drop_gt x0 hx, orL, if_neg c] at x2
    exact x2
  · rw [← x2, List.drop_eq_nil_of_le (by omega)]; rfl

theorem cursors_norm_1_hC : Cons Try.prog [(f_cmp_Compare_int_, cmp_Compare_int__ct), (f_cmp_Or_int_, cmp_Or_int__ct), (f_cursors_lo, cursors_lo_ct), (f_cursors_hi, cursors_hi_ct)] := ⟨cmp_Compare_int__con, cmp_Or_int__con, cursors_lo_con, cursors_hi_con, trivial⟩
theorem cursors_norm_1_con : ConR Try.prog f_cursors_norm_1 cursors_norm_1_cr := cursors_norm_1_vc cursors_norm_1_hC fun a b _ =>
  ⟨trivial, trivial, trivial, trivial, trivial, trivial, by simp [fitL], rfl⟩

theorem slices_insertionSortCmpFunc_api_Cursor__hC : Cons Try.prog [] := trivial
theorem slices_insertionSortCmpFunc_api_Cursor__con : ConZ Try.prog f_slices_insertionSortCmpFunc_api_Cursor_ insCur_cz := slices_insertionSortCmpFunc_api_Cursor__vc slices_insertionSortCmpFunc_api_Cursor__hC cursors_norm_1_con fun ls a b h => by
  obtain ⟨a0, ab, bl, hf, hel, hs⟩ := h
  have hf : (ls.length : Int) ≤ 140737488351232 := hf
  have hs : Swo curLt := hs
  clear hel
  refine ⟨by unfold inI64; omega, fun i d => a + 1 ≤ i ∧ (i ≤ b ∨ i ≤ a + 1) ∧ Part (curLt) ls d a b ∧ SrtIn (curLt) d a i, fun i _ => (b - i).toNat, ⟨by omega, by omega, .refl _ _ _, fun p q p0 pq qa => by omega⟩, ?_⟩
  rintro i d ⟨i0, i1, hp, hsr⟩
  have ld := hp.len
  refine ⟨fun hi => ⟨fun j e => a ≤ j ∧ j ≤ i ∧ Part (curLt) ls e a b ∧ InsIn (curLt) e a i j, fun j _ => j.toNat, ⟨by omega, by omega, hp, hsr.ins⟩, ?_⟩, fun hi => (seg_eq hs hp (fun p q p0 pq qb => hsr p q p0 pq (by omega)) a0 ab bl).symm⟩
  rintro j e ⟨j0, j1, hq, hin⟩
  have le := hq.len
  have go : a < j → curLt (gt e j) (gt e (j - 1)) → _ := fun c q => (⟨by omega, by omega, swp_part hs hq a0 c (by omega) (by omega) q, hin.step hs a0 c j1 (by omega) q⟩ : a ≤ j - 1 ∧ j - 1 ≤ i ∧ Part (curLt) ls (swpL e j (j - 1)) a b ∧ InsIn (curLt) (swpL e j (j - 1)) a i (j - 1))
  refine ⟨fun c => by omega, fun c => by omega, fun c => by unfold inI64; omega, fun c => by omega, fun c => by omega, fun c => ⟨⟨trivial, trivial⟩, fun q => ?_, fun q => ?_⟩, fun c => ⟨fun q => absurd q.1 c, fun _ => ?_⟩⟩
  · exact ⟨by unfold inI64; omega, by unfold inI64; omega, by omega, by omega, by omega, by omega, by omega, by omega, by omega, by rw [List.length_set]; omega, by unfold inI64; omega, go c q.2, by dsimp only; omega⟩
  · exact ⟨by unfold inI64; omega, ⟨by omega, by omega, hq, hin.done hs j0 j1 fun w => q ⟨w.1, w.2⟩⟩, by dsimp only; omega⟩
  · exact ⟨by unfold inI64; omega, ⟨by omega, by omega, hq, hin.done hs j0 j1 fun w => c w.1⟩, by dsimp only; omega⟩

theorem slices_swapRangeCmpFunc_api_Cursor__hC : Cons Try.prog [] := trivial
theorem slices_swapRangeCmpFunc_api_Cursor__con : ConZ Try.prog f_slices_swapRangeCmpFunc_api_Cursor_ swrCur_cz := slices_swapRangeCmpFunc_api_Cursor__vc slices_swapRangeCmpFunc_api_Cursor__hC fun ls a b n h => by
  obtain ⟨a0, b0, n0, h1, h2, hd, hf⟩ := h
  refine ⟨fun i d => 0 ≤ i ∧ i ≤ n ∧ d = swr ls a b i, fun i _ => (n - i).toNat, ⟨by omega, n0, (swr_zero ls a b).symm⟩, ?_⟩
  rintro i d ⟨i0, i1, rfl⟩
  have ll := swr_len ls a b i
  refine ⟨fun hi => ⟨by unfold inI64; omega, by unfold inI64; omega, by unfold inI64; omega, by omega, by omega, by unfold inI64; omega, by omega, by omega, by omega, by omega, by omega, by rw [List.length_set]; omega, by unfold inI64; omega, ⟨by omega, by omega, swr_succ a0 b0 i0 (by omega) (by omega) (by omega)⟩, by dsimp only; omega⟩, fun hi => by rw [show i = n by omega]⟩

theorem slices_rotateCmpFunc_api_Cursor__hC : Cons Try.prog [] := trivial
theorem slices_rotateCmpFunc_api_Cursor__con : ConZ Try.prog f_slices_rotateCmpFunc_api_Cursor_ rotCur_cz := slices_rotateCmpFunc_api_Cursor__vc slices_rotateCmpFunc_api_Cursor__hC slices_swapRangeCmpFunc_api_Cursor__con fun ls a m b h => by
  obtain ⟨a0, am, mb, bl, hf⟩ := h
  refine ⟨by unfold inI64; omega, by unfold inI64; omega, fun i j d => 0 < i ∧ 0 < j ∧ i ≤ m - a ∧ j ≤ b - m ∧ d.length = ls.length ∧ rotL d (m - i) m (m + j) = rotL ls a m b, fun i j _ => (i + j).toNat, ⟨by omega, by omega, by omega, by omega, rfl, by rw [show m - (m - a) = a by omega, show m + (b - m) = b by omega]⟩, ?_⟩
  rintro i j d ⟨i0, j0, i1, j1, dl, e⟩
  refine ⟨fun hne => ⟨fun c => ?_, fun c => ?_⟩, fun hq => ?_⟩
  · refine ⟨by unfold inI64; omega, ⟨by omega, by omega, by omega, by omega, by omega, by omega, by omega⟩, by unfold inI64; omega, ⟨by omega, by omega, by omega, by omega, by rw [swr_len]; exact dl, ?_⟩, by dsimp only; omega⟩
    rw [rot_step1 j0 c (by omega) (by omega)]; exact e
  · refine ⟨by unfold inI64; omega, by unfold inI64; omega, by unfold inI64; omega, ⟨by omega, by omega, by omega, by omega, by omega, by omega, by omega⟩, by unfold inI64; omega, ⟨by omega, by omega, by omega, by omega, by rw [swr_len]; exact dl, ?_⟩, by dsimp only; omega⟩
    rw [rot_step2 i0 (by omega) (by omega) (by omega)]; exact e
  · have hij : i = j := Classical.not_not.1 hq
    subst hij
    refine ⟨by unfold inI64; omega, ⟨by omega, by omega, by omega, by omega, by omega, by omega, by omega⟩, ?_⟩
    rw [rot_last i0 (by omega) (by omega)]; exact e

theorem slices_symMergeCmpFunc_api_Cursor__hC : Cons Try.prog [] := trivial
theorem slices_symMergeCmpFunc_api_Cursor__one (n : Nat) (hr : ConZ Try.prog f_slices_symMergeCmpFunc_api_Cursor_ (symNCur_cz n)) : ConZ Try.prog f_slices_symMergeCmpFunc_api_Cursor_ (symNCur_cz n.succ) := slices_symMergeCmpFunc_api_Cursor__vc slices_symMergeCmpFunc_api_Cursor__hC n slices_rotateCmpFunc_api_Cursor__con hr cursors_norm_1_con fun ls a m b h => by
  obtain ⟨⟨a0, am, mb, bl, ⟨hf, -, hs⟩, sl, sr⟩, hn⟩ := h
  have bl : b ≤ (ls.length : Int) := bl
  have hf : (ls.length : Int) ≤ 140737488351232 := hf
  have hs : Swo curLt := hs
  have sl : SrtIn curLt ls a m := sl
  have sr : SrtIn curLt ls m b := sr
  have okc : ∀ d : List Cur, d.length = ls.length → okAll cur_q () d := fun d hd => ⟨by show (d.length : Int) ≤ _; omega, fun _ _ => trivial, hs⟩
  refine ⟨by unfold inI64; omega, fun h1 => ?_, fun h1 => ⟨by unfold inI64; omega, fun h2 => ?_, fun h2 => ?_⟩⟩
  · have em : m = a + 1 := by omega
    subst em
    refine ⟨fun i j => a + 1 ≤ i ∧ i ≤ j ∧ j ≤ b ∧ (∀ q : Int, a + 1 ≤ q → q < i → curLt (gt ls q) (gt ls a)) ∧ ∀ q : Int, j ≤ q → q < b → ¬ curLt (gt ls q) (gt ls a), fun i j => (j - i).toNat, ⟨rfl, by omega, by omega, by omega, fun q _ _ => by omega, fun q _ _ => by omega⟩, ?_⟩
    rintro i j ⟨i0, ij, jb, lo, hi⟩
    rw [half64 (by omega) (by omega)]
    refine ⟨fun hx => ⟨by unfold inI64; omega, by decide, by unfold inI64; omega, by omega, by omega, by omega, by omega, ⟨trivial, trivial⟩, fun c => ?_, fun c => ?_⟩, fun hx => ?_⟩
    · refine ⟨by unfold inI64; omega, rfl, ⟨by omega, by omega, jb, fun q q0 q1 => ?_, hi⟩, by dsimp only; omega⟩
      by_cases e : q = (i + j) / 2
      · rw [e]; exact c
      · refine Classical.not_not.1 fun w => ?_
        exact hs.ntrans _ _ _ (sr q ((i + j) / 2) q0 (by omega) (by omega)) w c
    · refine ⟨rfl, ⟨i0, by omega, by omega, lo, fun q q0 q1 => ?_⟩, by dsimp only; omega⟩
      by_cases e : q = (i + j) / 2
      · rw [e]; exact c
      · exact hs.ntrans _ _ _ (sr ((i + j) / 2) q (by omega) (by omega) q1) c
    · have ej : j = i := by omega
      subst ej
      refine ⟨fun k d => a ≤ k ∧ k ≤ j - 1 ∧ Part curLt ls d a b ∧ ShL ls d a k, fun k _ => (j - k).toNat, ⟨by omega, by omega, .refl _ _ _, rfl, rfl, fun p _ _ => by omega, fun p _ _ => rfl⟩, ?_⟩
      rintro k d ⟨k0, k1, hp, hh⟩
      have dl := hp.len
      refine ⟨by unfold inI64; omega, fun hk => ?_, fun hk => ?_⟩
      · have q : curLt (gt d (k + 1)) (gt d (k + 1 - 1)) := by
          rw [show k + 1 - 1 = k by omega, hh.at_, hh.hi _ (by omega) (by omega)]
          exact lo _ (by omega) (by omega)
        have p2 := swp_part hs hp a0 (show a < k + 1 by omega) (by omega) (by omega) q
        rw [show k + 1 - 1 = k by omega, swpL_comm (by omega) (by omega) (by omega) (by omega)] at p2
        exact ⟨by unfold inI64; omega, by unfold inI64; omega, by omega, by omega, by omega, by omega, by omega, by omega, by omega, by rw [List.length_set]; omega, by unfold inI64; omega, ⟨by omega, by omega, p2, hh.step a0 k0 (by omega)⟩, by dsimp only; omega⟩
      · have ek : k = j - 1 := by omega
        subst ek
        exact (seg_eq hs hp (hh.srt hs a0 bl i0 jb sr lo hi) a0 (by omega) bl).symm
  · have em : b = m + 1 := by omega
    subst em
    refine ⟨fun i j => a ≤ i ∧ i ≤ j ∧ j ≤ m ∧ (∀ q : Int, a ≤ q → q < i → ¬ curLt (gt ls m) (gt ls q)) ∧ ∀ q : Int, j ≤ q → q < m → curLt (gt ls m) (gt ls q), fun i j => (j - i).toNat, ⟨rfl, by omega, by omega, by omega, fun q _ _ => by omega, fun q _ _ => by omega⟩, ?_⟩
    rintro i j ⟨i0, ij, jb, lo, hi⟩
    rw [half64 (by omega) (by omega)]
    refine ⟨fun hx => ⟨by unfold inI64; omega, by decide, by unfold inI64; omega, by omega, by omega, by omega, by omega, ⟨trivial, trivial⟩, fun c => ?_, fun c => ?_⟩, fun hx => ?_⟩
    · refine ⟨by unfold inI64; omega, rfl, ⟨by omega, by omega, jb, fun q q0 q1 => ?_, hi⟩, by dsimp only; omega⟩
      by_cases e : q = (i + j) / 2
      · rw [e]; exact c
      · exact hs.ntrans _ _ _ c (sl q ((i + j) / 2) q0 (by omega) (by omega))
    · refine ⟨rfl, ⟨i0, by omega, by omega, lo, fun q q0 q1 => ?_⟩, by dsimp only; omega⟩
      have c := Classical.not_not.1 c
      by_cases e : q = (i + j) / 2
      · rw [e]; exact c
      · refine Classical.not_not.1 fun w => ?_
        exact hs.ntrans _ _ _ w (sl ((i + j) / 2) q (by omega) (by omega) q1) c
    · have ej : j = i := by omega
      subst ej
      refine ⟨fun k d => j ≤ k ∧ k ≤ m ∧ Part curLt ls d a (m + 1) ∧ ShR ls d m k, fun k _ => k.toNat, ⟨by omega, by omega, .refl _ _ _, rfl, rfl, fun p _ _ => rfl, fun p _ _ => by omega⟩, ?_⟩
      rintro k d ⟨k0, k1, hp, hh⟩
      have dl := hp.len
      refine ⟨fun hk => ?_, fun hk => ?_⟩
      · have q : curLt (gt d k) (gt d (k - 1)) := by
          rw [hh.at_, hh.lo _ (by omega) (by omega)]
          exact hi _ (by omega) (by omega)
        exact ⟨by unfold inI64; omega, by unfold inI64; omega, by omega, by omega, by omega, by omega, by omega, by omega, by omega, by rw [List.length_set]; omega, by unfold inI64; omega, ⟨by omega, by omega, swp_part hs hp a0 (by omega) (by omega) bl q, hh.step (by omega) k1 (by omega)⟩, by dsimp only; omega⟩
      · have ek : k = j := by omega
        subst ek
        exact (seg_eq hs hp (hh.srt hs a0 (by omega) i0 k1 sl hi lo) a0 (by omega) bl).symm
  · rw [half64 (by omega) (by omega)]
    have hs0 : iteP ((a + b) / 2 < m) ((a + b) / 2 + m - b) a = if (a + b) / 2 < m then (a + b) / 2 + m - b else a := iteP_if
    have hr0 : iteP ((a + b) / 2 < m) ((a + b) / 2) m = if (a + b) / 2 < m then (a + b) / 2 else m := iteP_if
    generalize iteP ((a + b) / 2 < m) ((a + b) / 2 + m - b) a = s0 at *
    generalize iteP ((a + b) / 2 < m) ((a + b) / 2) m = r0 at *
    have hmid : 2 * ((a + b) / 2) ≤ a + b ∧ a + b ≤ 2 * ((a + b) / 2) + 1 := by omega
    generalize (a + b) / 2 = mid at *
    have hsr : (mid < m ∧ s0 = mid + m - b ∧ r0 = mid) ∨ (¬ mid < m ∧ s0 = a ∧ r0 = m) := by
      by_cases c : mid < m
      · rw [if_pos c] at hs0 hr0; exact .inl ⟨c, hs0, hr0⟩
      · rw [if_neg c] at hs0 hr0; exact .inr ⟨c, hs0, hr0⟩
    clear hs0 hr0
    refine ⟨by unfold inI64; omega, by decide, by unfold inI64; omega, by unfold inI64; omega, fun _ => by unfold inI64; omega, by unfold inI64; omega, fun st r => s0 ≤ st ∧ st ≤ r ∧ r ≤ r0 ∧ (s0 < st → ¬ curLt (gt ls (mid + m - 1 - (st - 1))) (gt ls (st - 1))) ∧ (r < r0 → curLt (gt ls (mid + m - 1 - r)) (gt ls r)), fun st r => (r - st).toNat, ⟨rfl, by omega, by omega, by omega, fun _ => by omega, fun _ => by omega⟩, ?_⟩
    rintro st r ⟨p0, p1, p2, p3, p4⟩
    refine ⟨fun hx => ?_, fun hx => ?_⟩
    · rw [half64 (by omega) (by omega)]
      have hm2 : 2 * ((st + r) / 2) ≤ st + r ∧ st + r ≤ 2 * ((st + r) / 2) + 1 := by omega
      generalize (st + r) / 2 = c at *
      refine ⟨by unfold inI64; omega, by decide, by unfold inI64; omega, by unfold inI64; omega, by omega, by omega, by omega, by omega, ⟨trivial, trivial⟩, fun q => ⟨by unfold inI64; omega, rfl, ⟨by omega, by omega, p2, fun _ => ?_, p4⟩, by dsimp only; omega⟩, fun q => ⟨rfl, ⟨p0, by omega, by omega, p3, fun _ => Classical.not_not.1 q⟩, by dsimp only; omega⟩⟩
      rw [show c + 1 - 1 = c by omega]; exact q
    · have er : r = st := by omega
      subst er
      have ok : SymOk curLt ls a m b mid r (mid + m - r) := ⟨a0, am, mb, bl, rfl, by omega, by omega, by omega, by omega, by omega, by omega, sl, sr, fun c1 c2 => by
          have := p3 (by omega)
          rwa [show mid + m - 1 - (r - 1) = mid + m - r by omega] at this, fun c1 c2 => by
          have := p4 (by omega)
          rwa [show mid + m - 1 - r = mid + m - r - 1 by omega] at this⟩
      have g1 := ok.s0; have g2 := ok.s1; have g3 := ok.s2; have g4 := ok.e0; have g5 := ok.e1; have g6 := ok.e2
      have len1 := rotL_len ls r m (mid + m - r)
      -- what the calls are given, and what comes of them
      have key : ∀ d1 : List Cur, d1 = rotL ls r m (mid + m - r) → (a < r ∧ r < mid → (symPre cur_q () d1 a r mid ∧ mid - a < (↑n : Int)) ∧ (mid < mid + m - r ∧ mid + m - r < b → (symPre cur_q () (seg curLt d1 a mid) mid (mid + m - r) b ∧ b - mid < (↑n : Int)) ∧ seg curLt (seg curLt d1 a mid) mid b = seg curLt ls a b) ∧ (¬ (mid < mid + m - r ∧ mid + m - r < b) → seg curLt d1 a mid = seg curLt ls a b)) ∧
          (¬ (a < r ∧ r < mid) → (mid < mid + m - r ∧ mid + m - r < b → (symPre cur_q () d1 mid (mid + m - r) b ∧ b - mid < (↑n : Int)) ∧ seg curLt d1 mid b = seg curLt ls a b) ∧ (¬ (mid < mid + m - r ∧ mid + m - r < b) → d1 = seg curLt ls a b)) := fun d1 hd => by
        subst hd
        obtain ⟨u1, u2⟩ := seg_spec hs (l := rotL ls r m (mid + m - r)) (a := a) (b := mid) a0 (by omega) (by omega)
        have ul := u1.len
        have right2 : ∀ {d : List Cur}, Part curLt (rotL ls r m (mid + m - r)) d a mid → SrtIn curLt d mid (mid + m - r) ∧ SrtIn curLt d (mid + m - r) b ∧ (¬ (mid < mid + m - r ∧ mid + m - r < b) → SrtIn curLt d mid b) := fun {d} hd =>
          ⟨srt_out hd (by omega) (by omega) (.inr (Int.le_refl _)) ok.srt3, srt_out hd (by omega) (by omega) (.inr (by omega)) ok.srt4, fun c => srt_out hd (by omega) (by omega) (.inr (Int.le_refl _)) (ok.right c)⟩
        refine ⟨fun c => ⟨⟨⟨a0, c.1, c.2, by show mid ≤ ((rotL ls r m (mid + m - r)).length : Int); omega, okc _ len1, ok.srt1, ok.srt2⟩, by omega⟩, fun c2 => ?_, fun c2 => ?_⟩, fun c => ⟨fun c2 => ?_, fun c2 => ?_⟩⟩
        · obtain ⟨w1, w2, _⟩ := right2 u1
          refine ⟨⟨⟨by omega, c2.1, c2.2, Int.le_trans bl (Int.ofNat_le.2 (Nat.le_of_eq (ul.trans len1).symm)), okc _ (ul.trans len1), w1, w2⟩, by omega⟩, ?_⟩
          obtain ⟨v1, v2⟩ := seg_spec hs (l := seg curLt (rotL ls r m (mid + m - r)) a mid) (a := mid) (b := b) (by omega) (by omega) (by omega)
          exact ok.fin hs u1 u2 v1 v2
        · exact ok.fin hs u1 u2 (.refl _ _ _) ((right2 u1).2.2 c2)
        · obtain ⟨w1, w2, _⟩ := right2 (.refl _ _ _)
          refine ⟨⟨⟨by omega, c2.1, c2.2, by show b ≤ ((rotL ls r m (mid + m - r)).length : Int); omega, okc _ len1, w1, w2⟩, by omega⟩, ?_⟩
          obtain ⟨v1, v2⟩ := seg_spec hs (l := rotL ls r m (mid + m - r)) (a := mid) (b := b) (by omega) (by omega) (by omega)
          exact ok.fin hs (.refl _ _ _) (ok.left c) v1 v2
        · exact ok.fin hs (.refl _ _ _) (ok.left c) (.refl _ _ _) ((right2 (.refl _ _ _)).2.2 c2)
      refine ⟨by unfold inI64; omega, fun c => ⟨⟨by omega, c.1, c.2, by omega, hf⟩, key _ rfl⟩, fun c => key ls (rot_id (by omega) g2 g4).symm⟩
theorem slices_symMergeCmpFunc_api_Cursor__all : ∀ n : Nat, ConZ Try.prog f_slices_symMergeCmpFunc_api_Cursor_ (symNCur_cz n)
  | 0 => ⟨trivial, by kernel_rfl, symNCur_cz_dec 0, fun k ls (a : Int × Int × Int) h => by
    obtain ⟨⟨_, h1, h2, _⟩, h3⟩ := h
    have h1 : a.1 < a.2.1 := h1
    have h2 : a.2.1 < a.2.2 := h2
    have h3 : a.2.2 - a.1 < ((0 : Nat) : Int) := h3
    omega⟩
  | n + 1 => slices_symMergeCmpFunc_api_Cursor__one n (slices_symMergeCmpFunc_api_Cursor__all n)
theorem slices_symMergeCmpFunc_api_Cursor__con : ConZ Try.prog f_slices_symMergeCmpFunc_api_Cursor_ symCur_cz := ⟨trivial, by kernel_rfl, symCur_cz_dec, fun k ls (a : Int × Int × Int) h => (slices_symMergeCmpFunc_api_Cursor__all (a.2.2 - a.1 + 1).toNat).2.2.2 k ls a ⟨h, by
  have h1 : a.1 < a.2.1 := h.2.1
  have h2 : a.2.1 < a.2.2 := h.2.2.1
  show a.2.2 - a.1 < (((a.2.2 - a.1 + 1).toNat : Nat) : Int)
  omega⟩⟩

theorem slices_stableCmpFunc_api_Cursor__hC : Cons Try.prog [] := trivial
theorem slices_stableCmpFunc_api_Cursor__con : ConZ Try.prog f_slices_stableCmpFunc_api_Cursor_ stbCur_cz := slices_stableCmpFunc_api_Cursor__vc slices_stableCmpFunc_api_Cursor__hC slices_insertionSortCmpFunc_api_Cursor__con slices_symMergeCmpFunc_api_Cursor__con fun ls n h => by
  obtain ⟨hn, hf, -, hs⟩ := h
  have hn : n = (ls.length : Int) := hn
  have hf : (ls.length : Int) ≤ 140737488351232 := hf
  have hs : Swo curLt := hs
  subst hn
  have okc : ∀ d : List Cur, d.length = ls.length → okAll cur_q () d := fun d hd => ⟨by show (d.length : Int) ≤ _; omega, fun _ _ => trivial, hs⟩
  refine ⟨fun a b d => 0 ≤ a ∧ b = a + 20 ∧ a ≤ ls.length ∧ (20 : Int) ∣ a ∧ Part curLt ls d 0 ls.length ∧ BlkTo curLt d 20 a, fun a _ _ => (ls.length - a).toNat, ⟨by omega, by omega, by omega, by omega, .refl _ _ _, .zero _ _⟩, ?_⟩
  rintro a b d ⟨a0, rfl, al, ad, hp, hb⟩
  have dl := hp.len
  refine ⟨fun hx => ?_, fun hx => ?_⟩
  · obtain ⟨g1, g2⟩ := seg_spec hs (l := d) (a := a) (b := a + 20) a0 (by omega) (by omega)
    exact ⟨⟨a0, by omega, by omega, okc d dl⟩, by unfold inI64; omega, ⟨by omega, rfl, by omega, by omega, hp.trans (g1.wide a0 (by omega)), hb.step g1 g2 a0 (by omega) (by omega) ad⟩, by dsimp only; omega⟩
  · obtain ⟨g1, g2⟩ := seg_spec hs (l := d) (a := a) (b := ls.length) a0 al (by omega)
    have hp1 := hp.trans (g1.wide a0 (Int.le_refl _))
    have hl1 := hp1.len
    refine ⟨⟨a0, al, by omega, okc d dl⟩, fun w e => 20 ≤ w ∧ Part curLt ls e 0 ls.length ∧ BlkFrom curLt e w 0, fun w _ => (ls.length - w).toNat, ⟨by omega, hp1, ?_⟩, ?_⟩
    · refine blk_all (a := a) (fun c c0 c1 hc => ?_) ad (by omega) (by omega) (by rw [hl1]; exact g2)
      have cw : c + 20 ≤ a := by
        have := Int.le_of_dvd (show 0 < a - c by omega) (Int.dvd_sub ad hc); omega
      exact srt_out g1 c0 (by omega) (.inl cw) (hb c c0 c1 hc)
    rintro w e ⟨w0, hq, hw⟩
    have el := hq.len
    refine ⟨fun hx => ⟨by unfold inI64; omega, fun a b e => 0 ≤ a ∧ b = a + 2 * w ∧ a ≤ ls.length ∧ 2 * w ∣ a ∧ Part curLt ls e 0 ls.length ∧ BlkTo curLt e (2 * w) a ∧ BlkFrom curLt e w a, fun a _ _ => (ls.length - a).toNat, ⟨by omega, by omega, by omega, Int.dvd_zero _, hq, .zero _ _, hw⟩, ?_⟩, fun hx => ?_⟩
    · rintro a b e ⟨a0, rfl, al, ad, hq, hb, hw⟩
      have el := hq.len
      have b1 := hw a (Int.le_refl _) (by rw [Int.sub_self]; exact Int.dvd_zero _)
      have b2 := hw (a + w) (by omega) ⟨1, by omega⟩
      rw [el] at b1 b2
      refine ⟨fun hx => ?_, fun hx => ⟨by unfold inI64; omega, fun hy => ?_, fun hy => ?_⟩⟩
      · obtain ⟨g1, g2⟩ := seg_spec hs (l := e) (a := a) (b := a + 2 * w) a0 (by omega) (by omega)
        refine ⟨by unfold inI64; omega, ⟨a0, by omega, by omega, by show a + 2 * w ≤ (e.length : Int); omega, okc e el, fun p q p0 pq qb => b1 p q p0 pq (by omega), fun p q p0 pq qb => b2 p q p0 pq (by omega)⟩, by unfold inI64; omega, by unfold inI64; omega, ⟨by omega, by omega, by omega, Int.dvd_add ad (Int.dvd_refl _), hq.trans (g1.wide a0 (by omega)), hb.step g1 g2 a0 (by omega) (by omega) ad, hw.step g1 a0 (by omega)⟩, by dsimp only; omega⟩
      · obtain ⟨g1, g2⟩ := seg_spec hs (l := e) (a := a) (b := ls.length) a0 al (by omega)
        have hq1 := hq.trans (g1.wide a0 (Int.le_refl _))
        have hl1 := hq1.len
        refine ⟨⟨a0, by omega, hy, by show (ls.length : Int) ≤ (e.length : Int); omega, okc e el, fun p q p0 pq qb => b1 p q p0 pq (by omega), fun p q p0 pq qb => b2 p q p0 pq (by omega)⟩, by unfold inI64; omega, ⟨by omega, hq1, ?_⟩, by dsimp only; omega⟩
        rw [Int.mul_comm]
        refine blk_all (a := a) (fun c c0 c1 hc => ?_) ad (by omega) (by omega) (by rw [hl1]; exact g2)
        have cw : c + 2 * w ≤ a := by
          have := Int.le_of_dvd (show 0 < a - c by omega) (Int.dvd_sub ad hc); omega
        exact srt_out g1 c0 (by omega) (.inl cw) (hb c c0 c1 hc)
      · refine ⟨by unfold inI64; omega, ⟨by omega, hq, ?_⟩, by dsimp only; omega⟩
        rw [Int.mul_comm]
        exact blk_all hb ad (by omega) (by omega) fun p q p0 pq qb => b1 p q p0 pq (by omega)
    · have := seg_eq hs hq (by rw [← el]; exact blk_srt hw (by omega)) (Int.le_refl _) (by omega) (Int.le_refl _)
      rw [seg_all] at this
      exact this.symm

theorem slices_SortStableFunc___api_Cursor_api_Cursor__hC : Cons Try.prog [] := trivial
theorem slices_SortStableFunc___api_Cursor_api_Cursor__con : ConZ Try.prog f_slices_SortStableFunc___api_Cursor_api_Cursor_ sstCur_cz := slices_SortStableFunc___api_Cursor_api_Cursor__vc slices_SortStableFunc___api_Cursor_api_Cursor__hC slices_stableCmpFunc_api_Cursor__con fun ls h => ⟨⟨rfl, h⟩, rfl⟩

theorem cursors_norm_hC : Cons Try.prog [(f_cursors_lo, cursors_lo_ct), (f_cursors_hi, cursors_hi_ct), (f_cursors_both, cursors_both_ct), (f_slices_Clone___api_Cursor_api_Cursor_, slices_Clone___api_Cursor_api_Cursor__ct)] := ⟨cursors_lo_con, cursors_hi_con, cursors_both_con, slices_Clone___api_Cursor_api_Cursor__con, trivial⟩
theorem cursors_norm_con : Con Try.prog f_cursors_norm cursors_norm_ct := cursors_norm_vc cursors_norm_hC slices_SortStableFunc___api_Cursor_api_Cursor__con fun l h => by
  have hl : l.length ≤ 20 := h
  have sl := stab_len cur_swo l
  simp only [prod_eta]
  refine ⟨by simp only [fitM]; omega, ⟨by show (l.length : Int) ≤ 140737488351232; omega, fun _ _ => trivial, cur_swo⟩, fun x out => 0 ≤ x ∧ x ≤ l.length ∧ out.length ≤ x ∧ out = curFold ((stab curLt l).take x.toNat), fun x _ => (l.length - x).toNat, ⟨trivial, by omega, by omega, by simp, rfl⟩, ?_⟩
  rintro x out ⟨x0, x1, ol, e⟩
  have add : x < (stab curLt l).length → ¬ (0 < out.length ∧ curTouch (gt out ((out.length : Int) - 1)) (gt (stab curLt l) x)) → out ++ [gt (stab curLt l) x] = curFold ((stab curLt l).take (x + 1).toNat) := fun t q => by
    rw [fold_succ x0 t, ← e, step_neg q]
  refine ⟨fun t => ⟨x0, t, fun p => ⟨by unfold inI64; omega, by omega, by omega, trivial, trivial, fun _ => trivial, fun _ => trivial, trivial, trivial, fun _ => trivial, fun _ => trivial, fun q => ?_, fun q => ?_⟩, fun p => ?_⟩, fun t => ?_⟩
  · refine ⟨by unfold inI64; omega, trivial, by omega, by omega, by unfold inI64; omega, trivial, ⟨by omega, by omega, by rw [List.length_set]; omega, ?_⟩, by dsimp only; omega⟩
    rw [fold_succ x0 t, ← e, step_pos (by omega) q, show ((out.length : Int) - 1).toNat = out.length - 1 by omega]
  · exact ⟨by omega, by unfold inI64; omega, trivial, ⟨by omega, by omega, by simp; omega, add t fun w => q w.2⟩, by dsimp only; omega⟩
  · exact ⟨by omega, by unfold inI64; omega, trivial, ⟨by omega, by omega, by simp; omega, add t fun w => p (by omega)⟩, by dsimp only; omega⟩
  · rw [e, List.take_of_length_le (by omega)]; rfl

theorem cursors_Type_hC : Cons Try.prog [(f_cursors_fault, cursors_fault_ct), (f_cursors_norm, cursors_norm_ct), (f_cursors_lo, cursors_lo_ct), (f_cursors_hi, cursors_hi_ct)] := ⟨cursors_fault_con, cursors_norm_con, cursors_lo_con, cursors_hi_con, trivial⟩
theorem cursors_Type_con : Con Try.prog f_cursors_Type cursors_Type_ct := cursors_Type_vc cursors_Type_hC fun text l put ⟨hs, hl⟩ => by
  simp only [inI_iff, true_and, and_true, ne_eq, Int.reduceEq, not_false_eq_true, Int.toNat_zero, prod_eta] at *
  refine ⟨by omega, fun c => by rw [type_a c]; exact ⟨rfl, rfl, rfl⟩, fun c => ?_⟩
  have c : cursorsFault text.length l = 0 := Classical.not_not.1 c
  obtain ⟨c1, c2, c3, c4⟩ := fault_ok c
  have ap : Apart text.length (curNorm l) := apart_norm c4
  have nl := norm_len l
  refine ⟨c1, fun made at_ x out => 0 ≤ x ∧ x ≤ (curNorm l).length ∧ (made, at_, out) = tMade text put ((curNorm l).take x.toNat) ∧ made.length ≤ 600, fun _ _ x _ => ((curNorm l).length - x).toNat, ⟨by omega, by omega, by simp [tMade], by simp⟩, ?_⟩
  rintro made at_ x out ⟨h0, h1, h2, h3⟩
  dsimp only
  have aa := apart_at (put := put) ap h0 h1
  rw [← h2] at aa
  simp only at aa
  refine ⟨fun t => ?_, fun t => ?_⟩
  · have b := aa.2.2 t
    have d := ap x h0 t
    have m := lo_hi (gt (curNorm l) x)
    have e := tmade_succ (text := text) (put := put) h0 t
    rw [← h2] at e
    simp only [tStep] at e
    have lt : (List.drop at_.toNat (List.take (cLo (gt (curNorm l) x)).toNat text)).length ≤ 600 := by
      simp only [List.length_drop, List.length_take]; omega
    refine ⟨h0, t, aa.1, b, by omega, by omega, by rw [List.length_append]; omega, fun q => ?_, fun q => ?_⟩
    · have := twhole_big (text := text) (put := put) (l := curNorm l) (k := (x + 1).toNat) (by rw [e]; simp only; omega)
      rw [type_b c this]; exact ⟨rfl, rfl, rfl⟩
    · have ho : out.length = x.toNat := by
        have := tmade_out (text := text) (put := put) (l := curNorm l) x.toNat (by omega)
        rw [← h2] at this; exact this
      exact ⟨by omega, by omega, ⟨by omega, by omega, e.symm, by omega⟩, by omega⟩
  · have e : (made, at_, out) = tMade text put (curNorm l) := by rw [h2, List.take_of_length_le (by omega)]
    have w : made ++ List.drop at_.toNat (List.take (text.length : Int).toNat text) = tWhole text put (curNorm l) := by
      unfold tWhole; rw [← e]; simp
    rw [w]
    refine ⟨aa.1, aa.2.1, by omega, by simp only [List.length_drop, List.length_take]; omega, fun q => ?_, fun q => ?_⟩
    · rw [type_b c (by omega)]; exact ⟨rfl, rfl, rfl⟩
    · rw [type_c c (by omega), ← e]; exact ⟨rfl, rfl, rfl⟩

theorem top_TopTyped_hC : Cons Try.prog [(f_keep_Few, keep_Few_ct), (f_find_All, find_All_ct), (f_find_Replace, find_Replace_ct), (f_cursors_Type, cursors_Type_ct)] := ⟨keep_Few_con, find_All_con, find_Replace_con, cursors_Type_con, trivial⟩
theorem law_TopTyped_con : Con Try.prog f_top_TopTyped law_TopTyped_ct := top_TopTyped_vc top_TopTyped_hC fun l m o ⟨hl, hm, ho⟩ => by
  have l1 := few_len l 60
  have l2 := few_len m 2
  have l3 := few_len o 3
  obtain ⟨t1, t2, t3, t4⟩ := type_same (s := fewOf l 60) (f := fewOf m 2 ++ [97]) (p := fewOf o 3) (by omega) (by simp) (by simp only [List.length_append, List.length_singleton]; omega) (by omega)
  have fa : findAll (fewOf l 60) (fewOf m 2 ++ [97]) = (findAt (fewOf l 60) (fewOf m 2 ++ [97]), 0) := by unfold findAll; rw [if_pos t1]
  have hx : ∀ i ∈ findAt (fewOf l 60) (fewOf m 2 ++ [97]), 0 ≤ i ∧ i + (fewOf m 2 ++ [97]).length ≤ (fewOf l 60).length := fun i hi => findAt_mem hi
  have xl := findAt_len (fewOf l 60) (fewOf m 2 ++ [97])
  refine ⟨⟨hl.2, (show (0 : Int) ≤ 60 by decide), (show (60 : Int) ≤ 1000 by decide)⟩, ⟨hm.2, (show (0 : Int) ≤ 2 by decide), (show (2 : Int) ≤ 1000 by decide)⟩, by unfold inI64; omega, ⟨ho.2, (show (0 : Int) ≤ 3 by decide), (show (3 : Int) ≤ 1000 by decide)⟩, trivial, by show (_ : Nat) ≤ _; omega, fun c => ?_, fun _ => ?_⟩
  · rw [fa, t2] at c
    simp at c
  rw [fa]
  generalize findAt (fewOf l 60) (fewOf m 2 ++ [97]) = x at *
  generalize hf : fewOf m 2 ++ [97] = f at *
  have f3 : f.length ≤ 3 := by rw [← hf]; simp only [List.length_append, List.length_singleton]; omega
  generalize fewOf l 60 = s at *
  generalize fewOf o 3 = p at *
  refine ⟨fun e i cs => 0 ≤ i ∧ i ≤ x.length ∧ (cs, e) = gCur f.length (x.take i.toNat), fun _ i _ => (x.length - i).toNat, ⟨rfl, by omega, by omega, by simp [gCur]⟩, ?_⟩
  rintro e i cs ⟨i0, i1, i2⟩
  dsimp only
  have gk := gcur_ok (size := s.length) (fl := f.length) (x := x.take i.toNat) (fun j hj => hx j (List.mem_of_mem_take hj)) (by omega)
  have sm := (same_made (text := s) (put := p) (fl := f.length) (by omega) (x.take i.toNat)).1
  have rb := rmade_at (text := s) (put := p) (fl := f.length) (l := x) hx (by omega) i.toNat
  rw [← i2] at sm
  simp only at sm
  have cl : cs.length ≤ 60 := by omega
  refine ⟨fun t => ?_, fun t => ?_⟩
  · have hi := hx _ (gt_mem i0 t)
    have su := gcur_succ (fl := f.length) i0 t
    rw [← i2] at su
    unfold gStep at su
    refine ⟨i0, t, fun c => ?_, fun c => ?_⟩
    · rw [if_pos c] at su
      exact ⟨i0, t, i0, t, by unfold inI64; omega, by omega, i0, t, by unfold inI64; omega, by unfold inI64; omega, rfl, ⟨by omega, by omega, su.symm⟩, by omega⟩
    · rw [if_neg c] at su
      exact ⟨by unfold inI64; omega, rfl, ⟨by omega, by omega, su.symm⟩, by omega⟩
  · rw [List.take_of_length_le (by omega)] at i2
    rw [← i2] at t3 t4
    simp only at t3 t4
    refine ⟨fun c => absurd t3 c, fun _ => ⟨fun _ => rfl, fun c => ?_⟩⟩
    obtain ⟨u1, u2, u3⟩ := t4 c
    refine ⟨⟨by show (_ : Nat) ≤ _; omega, by show (_ : Nat) ≤ _; omega⟩, ⟨by decide, by decide⟩, ?_⟩
    rw [one_type, bo_true]
    exact ⟨⟨⟨⟨u1, rfl⟩, rfl⟩, u2⟩, u3⟩

end Go.Proofs.Ytkemhbclkglmbaa
