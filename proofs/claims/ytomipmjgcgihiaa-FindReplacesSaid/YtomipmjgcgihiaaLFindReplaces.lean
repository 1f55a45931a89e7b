/- The contracts of the functions that the law reaches, and that of the law. Conditions: none. -/
import Derived.Test.YtomipmjgcgihiaaWFindReplaces
import Derived.Test.YtomipmjgcgihiaaRep
set_option linter.unusedVariables false
set_option linter.unusedSimpArgs false
set_option maxRecDepth 100000
namespace Go.Proofs.Ytomipmjgcgihiaa
open Go.Vc Go.Fu

theorem find_fault_hC : Cons Try.prog [] := trivial
theorem find_fault_con : Con Try.prog f_find_fault find_fault_ct := find_fault_vc find_fault_hC fun t f _ => by
  simp only [findFault]
  refine ⟨fun q => by rw [if_pos (by omega)], fun q => ?_⟩
  rw [if_neg (by omega)]
  exact ⟨fun r => by rw [if_pos r], fun r => by rw [if_neg r]⟩

theorem find_border_hC : Cons Try.prog [] := trivial
theorem find_border_con : Con Try.prog f_find_border find_border_ct := find_border_vc find_border_hC fun s hs => by
  simp only [inI_iff, true_and, and_true, ne_eq, Int.reduceEq, not_false_eq_true, Int.toNat_zero]
  refine ⟨by omega, by omega, fun n i out => 1 ≤ i ∧ (i ≤ s.length ∨ i = 1) ∧ out.length = s.length ∧ n = bord s i ∧ ∀ j, 0 ≤ j → j < i → j < s.length → gt out j = bord s (j + 1), fun _ i _ => (s.length - i).toNat, ?_, ?_⟩
  · have b1 : bord s 1 = 0 := bord_eq ⟨isBord_zero (by omega), fun j hj => by have := hj.2.1; omega⟩
    refine ⟨by omega, by omega, by simp, b1.symm, fun j h0 h1 h2 => ?_⟩
    rw [gt_rep h0 (by omega), show j + 1 = 1 by omega, b1]
  · rintro n i out ⟨h1, h2, h3, h4, h5⟩
    dsimp only
    refine ⟨fun q => ?_, fun q => ?_⟩
    · have hb := bord_ok (s := s) h1
      rw [← h4] at hb
      refine ⟨fun m => 0 ≤ m ∧ m < i ∧ isBord s i m ∧ ∀ k, 1 ≤ k → isBord s (i + 1) k → k - 1 ≤ m, fun m => m.toNat, ⟨hb.1.1, hb.1.2.1, hb.1, fun k hk hbk => hb.2 _ (isBord_pred hbk hk).1⟩, ?_⟩
      rintro m ⟨m0, m1, m2, m3⟩
      dsimp only
      refine ⟨fun _ => by omega, fun _ => by omega, fun _ => by omega, fun _ => by omega, fun r => ?_, fun r => ?_⟩
      · have e : gt out (m - 1) = bord s m := by rw [h5 (m - 1) (by omega) (by omega) (by omega)]; congr 1; omega
        have ok := bord_ok (s := s) (n := m) (by omega)
        have lt := ok.1.2.1
        have nn := ok.1.1
        rw [e]
        refine ⟨by omega, by omega, by omega, ⟨nn, by omega, isBord_trans m2 ok.1, fun k hk hbk => ?_⟩, by omega⟩
        obtain ⟨p1, p2⟩ := isBord_pred hbk hk
        have := m3 k hk hbk
        have hne : k - 1 ≠ m := fun e => by rw [e] at p2; exact r.2 p2.symm
        exact ok.2 _ (isBord_down m2 p1 (by omega))
      · have nx : iteP (gt s i = gt s m) (m + 1) m = bord s (i + 1) := by
          symm
          by_cases e : gt s i = gt s m
          · rw [iteP_pos e]
            refine bord_eq ⟨isBord_succ m2 e.symm, fun j hj => ?_⟩
            by_cases hj1 : 1 ≤ j
            · have := m3 j hj1 hj; omega
            · omega
          · rw [iteP_neg e]
            have hm : m = 0 := Classical.byContradiction fun hm => r ⟨by omega, e⟩
            rw [hm]
            refine bord_eq ⟨isBord_zero (by omega), fun j hj => ?_⟩
            by_cases hj1 : 1 ≤ j
            · have a1 := m3 j hj1 hj
              have a2 := (isBord_pred hj hj1).2
              rw [show j - 1 = m by omega] at a2
              exact (e a2.symm).elim
            · omega
        rw [nx]
        refine ⟨by omega, q, m0, by omega, fun _ => by omega, by omega, by omega, by omega, ⟨by omega, by omega, by simpa using h3, rfl, fun j j0 j1 j2 => ?_⟩, by omega⟩
        by_cases e : j = i
        · rw [e, gt_set_eq (by omega) (by omega)]
        · rw [gt_set_ne (by omega) j0 (fun h => e h.symm)]
          exact h5 j j0 (by omega) j2
    · refine ext_gt (by rw [borders_len]; exact h3) fun j j0 j1 => ?_
      rw [borders_gt j0 (by omega)]
      exact h5 j j0 (by omega) (by omega)

theorem find_In_hC : Cons Try.prog [(f_find_border, find_border_ct)] := ⟨find_border_con, trivial⟩
theorem find_In_con : Con Try.prog f_find_In find_In_ct := find_In_vc find_In_hC fun t f ⟨h1, h2, h3⟩ => by
  have hf : 0 < f.length := List.length_pos_iff.2 h3
  have bl := borders_len f
  simp only [inI_iff, true_and, and_true, ne_eq, Int.reduceEq, not_false_eq_true, Int.toNat_zero]
  refine ⟨by omega, fun n x out => 0 ≤ x ∧ x ≤ t.length ∧ isPre t f x n ∧ (∀ k, isPre t f x k → k ≤ n) ∧ out = pls (stands t f) (x - f.length + 1), fun _ x _ => (t.length - x).toNat, ⟨by omega, by omega, isPre_zero (by omega), fun k h => by have := h.2.1; omega, by rw [pls_zero (by omega)]⟩, ?_⟩
  rintro n x out ⟨g0, g1, g2, g3, g4⟩
  dsimp only
  have hol : out.length ≤ 100001 := by
    have := pls_len (P := stands t f) (x - f.length + 1); rw [g4]; omega
  refine ⟨fun u => ?_, fun u => ?_⟩
  · refine ⟨fun m => isPre t f x m ∧ ∀ k, 1 ≤ k → isPre t f (x + 1) k → k - 1 ≤ m, fun m => m.toNat, ⟨g2, fun k hk hp => g3 _ (isPre_pred hp hk).1⟩, ?_⟩
    rintro m ⟨m1, m2⟩
    dsimp only
    have m0 := m1.1
    have mx := m1.2.1
    have mf := m1.2.2.1
    refine ⟨fun _ => g0, fun _ => u, fun _ => m0, fun _ => by omega, fun r => ?_, fun r => ?_⟩
    · have e : gt (borders f) (m - 1) = bord f m := by rw [borders_gt (by omega) (by omega)]; congr 1; omega
      rw [e]
      have ok := bord_ok (s := f) (n := m) (by omega)
      refine ⟨by omega, by omega, by omega, ⟨isPre_bord m1 ok.1, fun k hk hp => ?_⟩, by have := ok.1.1; have := ok.1.2.1; omega⟩
      obtain ⟨p1, p2⟩ := isPre_pred hp hk
      have := m2 k hk hp
      have hkf := hp.2.2.1
      have hne : k - 1 ≠ m := fun e => by
        rcases r.2 with r | r
        · omega
        · rw [e] at p2; exact r p2.symm
      exact ok.2 _ (isPre_down m1 p1 (by omega))
    · have hmf : m < f.length := by
        by_cases c : 0 < m
        · have : ¬ m = f.length := fun e => r ⟨c, .inl e⟩
          omega
        · omega
      refine ⟨g0, u, m0, hmf, fun _ => by omega, ?_⟩
      have nx : isPre t f (x + 1) (iteP (gt t x = gt f m) (m + 1) m) ∧ ∀ k, isPre t f (x + 1) k → k ≤ iteP (gt t x = gt f m) (m + 1) m := by
        by_cases e : gt t x = gt f m
        · rw [iteP_pos e]
          refine ⟨isPre_succ m1 hmf e.symm, fun k hk => ?_⟩
          by_cases c : 1 ≤ k
          · have := m2 k c hk; omega
          · omega
        · rw [iteP_neg e]
          have hm : m = 0 := Classical.byContradiction fun c => r ⟨by omega, .inr e⟩
          subst hm
          refine ⟨isPre_zero (by omega), fun k hk => ?_⟩
          by_cases c : 1 ≤ k
          · have := m2 k c hk
            have hk1 : k = 1 := by omega
            subst hk1
            have := (isPre_pred hk (by omega)).2
            exact (e this.symm).elim
          · omega
      generalize iteP (gt t x = gt f m) (m + 1) m = nn at *
      obtain ⟨n1, n2⟩ := nx
      have nb := n1.2.1
      refine ⟨fun w => ?_, fun w => ?_⟩
      · have hs : stands t f (x + 1 - f.length) := (isPre_full (by omega)).1 (w ▸ n1)
        refine ⟨by omega, by omega, by omega, by omega, ⟨by omega, by omega, n1, n2, ?_⟩, by omega⟩
        have hxf := hs.1
        rw [w, g4, show x + 1 - (f.length : Int) + 1 = (x + 1 - f.length) + 1 by omega, pls_pos (n := x + 1 - f.length) hxf hs, show x - (f.length : Int) + 1 = x + 1 - f.length by omega]
      · refine ⟨by omega, ⟨by omega, by omega, n1, n2, ?_⟩, by omega⟩
        rw [g4, show x + 1 - (f.length : Int) + 1 = (x - f.length + 1) + 1 by omega]
        by_cases c : 0 ≤ x - (f.length : Int) + 1
        · rw [pls_neg c fun hs => w ?_]
          have := (isPre_full (text := t) (find := f) (i := x + 1) (by omega)).2 (by rw [show x + 1 - (f.length : Int) = x - f.length + 1 by omega]; exact hs)
          have := n2 _ this
          have := n1.2.2.1
          omega
        · rw [pls_zero (by omega), pls_zero (by omega)]
  · rw [g4]
    unfold findAt
    have hx : x = t.length := by omega
    subst hx
    by_cases c : 0 ≤ (t.length : Int) - f.length + 1
    · exact (pls_more c (by omega) fun i a b h => by have := h.2.1; omega).symm
    · rw [pls_zero (by omega), pls_more (P := stands t f) (n := 0) (m := t.length) (by omega) (by omega) fun i a b h => by have := h.2.1; omega, pls_zero (by omega)]
theorem find_Replace_con : Con Try.prog f_find_Replace find_Replace_ct := replace_con find_fault_con find_In_con

theorem ref_findFault_hC : Cons Try.prog [] := trivial
theorem ref_findFault_con : Con Try.prog f_ref_findFault ref_findFault_ct := ref_findFault_vc ref_findFault_hC fun t f _ => by
  simp only [findFault]
  refine ⟨fun q => by rw [if_pos (by omega)], fun q => ?_⟩
  rw [if_neg (by omega)]
  exact ⟨fun r => by rw [if_pos r], fun r => by rw [if_neg r]⟩

theorem ref_standsAt_hC : Cons Try.prog [] := trivial
theorem ref_standsAt_con : Con Try.prog f_ref_standsAt ref_standsAt_ct := ref_standsAt_vc ref_standsAt_hC fun t f at_ ⟨h1, h2, h3⟩ => by
  simp only [inI_iff, true_and, and_true, ne_eq, Int.reduceEq, not_false_eq_true, Int.toNat_zero, bo_eq_bo, fitS, standPre] at *
  refine ⟨fun _ => by omega, fun _ => by omega, fun q => q.1, fun _ => by omega, fun q => q.2, ?_⟩
  constructor
  · rintro ⟨⟨a, b⟩, c⟩; exact (stands_part a b).1 c
  · intro c; exact ⟨⟨c.1, c.2.1⟩, (stands_part c.1 c.2.1).2 c⟩

theorem ref_FindReplace_hC : Cons Try.prog [(f_ref_findFault, ref_findFault_ct), (f_ref_standsAt, ref_standsAt_ct)] := ⟨ref_findFault_con, ref_standsAt_con, trivial⟩
theorem ref_FindReplace_con : Con Try.prog f_ref_FindReplace ref_FindReplace_ct := ref_FindReplace_vc ref_FindReplace_hC fun text find put hp => by
  have hp : put.length ≤ 140737488351232 := hp
  refine ⟨trivial, fun c => by rw [replace_a c]; exact ⟨rfl, rfl, rfl⟩, fun c => ?_⟩
  have c : findFault text find = 0 := Classical.not_not.1 c
  obtain ⟨t1, t2, t3⟩ := findFault_ok.1 c
  have f0 : 0 < find.length := List.length_pos_iff.2 t3
  refine ⟨fun out n at_ => Rinv text find put at_ n out ∧ (out.length : Int) ≤ 600 + put.length + at_, fun _ _ at_ => (text.length - at_).toNat, ⟨.init, by simp only [List.length_nil]; omega⟩, ?_⟩
  rintro out n at_ ⟨h, ho⟩
  have a0 := h.a0
  have a1 := h.a1
  have n0 := h.n0
  dsimp only
  refine ⟨fun t => ⟨⟨by show text.length ≤ _; omega, by show find.length ≤ _; omega, by show -1000000 ≤ at_; omega, by show at_ ≤ 140737488351232; omega⟩, fun s => ?_, fun s => ?_⟩, fun t => ?_⟩
  · have s := bo_true.1 s
    have sl := s.2.1
    refine ⟨by unfold inI64; omega, by unfold inI64; omega, fun q => by unfold inI64; omega, ⟨h.found f0 s (iteP_if.trans ?_), ?_⟩, by omega⟩
    · by_cases q : out.length ≤ 600
      · rw [if_pos q, if_pos (by omega)]
      · rw [if_neg q, if_neg (by omega)]
    · rw [iteP_if]
      split
      · rw [List.length_append]; omega
      · omega
  · have s : ¬ stands text find at_ := fun z => s (bo_true.2 z)
    have e : (List.drop at_.toNat (List.take (at_ + 1).toNat text)).length ≤ 1 := by
      simp only [List.length_drop, List.length_take]; omega
    exact ⟨by unfold inI64; omega, a0, by omega, by omega, by unfold inI64; omega, by unfold inI64; omega, ⟨h.byte t s, by rw [List.length_append]; omega⟩, by omega⟩
  · obtain ⟨k1, k2⟩ := h.fin t c
    exact ⟨fun q => by rw [k1 (by omega)]; exact ⟨rfl, rfl, rfl⟩, fun q => by rw [k2 (by omega)]; exact ⟨rfl, rfl, rfl⟩⟩

theorem law_FindReplaces_hC : Cons Try.prog [(f_find_Replace, find_Replace_ct), (f_ref_FindReplace, ref_FindReplace_ct)] := ⟨find_Replace_con, ref_FindReplace_con, trivial⟩
theorem law_FindReplaces_con : Con Try.prog f_law_FindReplaces law_FindReplaces_ct := law_FindReplaces_vc law_FindReplaces_hC fun text find put h => by
  exact ⟨h.2.2, h.2.2, by simp⟩

end Go.Proofs.Ytomipmjgcgihiaa
