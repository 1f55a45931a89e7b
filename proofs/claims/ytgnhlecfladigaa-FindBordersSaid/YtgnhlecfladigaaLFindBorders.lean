/- The contracts of the functions that the law reaches, and that of the law. Conditions: none. -/
import Derived.Test.YtgnhlecfladigaaWFindBorders
set_option linter.unusedVariables false
set_option linter.unusedSimpArgs false
set_option maxRecDepth 100000
namespace Go.Proofs.Ytgnhlecfladigaa
open Go.Vc Go.Fu

theorem find_border_hC : Cons Try.prog [] := trivial
theorem find_border_con : Con Try.prog f_find_border find_border_ct := find_border_vc find_border_hC fun s hs => by
  simp only [inI_iff, true_and, and_true, ne_eq, Int.reduceEq, not_false_eq_true, Int.toNat_zero]
  refine ⟨by omega, by omega, fun n i out => 1 ≤ i ∧ (i ≤ s.length ∨ i = 1) ∧ out.length = s.length ∧ n = bord s i ∧ ∀ j, 0 ≤ j → j < i → j < s.length → gt out j = bord s (j + 1), fun _ i _ => (s.length - i).toNat, ?_, ?_⟩
  · have b1 : bord s 1 = 0 := bord_eq ⟨isBord_zero (by omega), fun j hj => by have := hj.2.1; omega⟩
    refine ⟨by omega, by omega, by simp, b1.symm, fun j h0 h1 h2 => ?_⟩
    rw [gt_rep h0 (by omega), show j + 1 = 1 by omega, b1]
  · rintro n i out ⟨h1, h2, h3, h4, h5⟩
    dsimp only
    refine ⟨fun q => ?_, fun q => ?_⟩
    · have hb := bord_ok (s := s) h1
      rw [← h4] at hb
      refine ⟨fun m => 0 ≤ m ∧ m < i ∧ isBord s i m ∧ ∀ k, 1 ≤ k → isBord s (i + 1) k → k - 1 ≤ m, fun m => m.toNat, ⟨hb.1.1, hb.1.2.1, hb.1, fun k hk hbk => hb.2 _ (isBord_pred hbk hk).1⟩, ?_⟩
      rintro m ⟨m0, m1, m2, m3⟩
      dsimp only
      refine ⟨fun _ => by omega, fun _ => by omega, fun _ => by omega, fun _ => by omega, fun r => ?_, fun r => ?_⟩
      · have e : gt out (m - 1) = bord s m := by rw [h5 (m - 1) (by omega) (by omega) (by omega)]; congr 1; omega
        have ok := bord_ok (s := s) (n := m) (by omega)
        have lt := ok.1.2.1
        have nn := ok.1.1
        rw [e]
        refine ⟨by omega, by omega, by omega, ⟨nn, by omega, isBord_trans m2 ok.1, fun k hk hbk => ?_⟩, by omega⟩
        obtain ⟨p1, p2⟩ := isBord_pred hbk hk
        have := m3 k hk hbk
        have hne : k - 1 ≠ m := fun e => by rw [e] at p2; exact r.2 p2.symm
        exact ok.2 _ (isBord_down m2 p1 (by omega))
      · have nx : iteP (gt s i = gt s m) (m + 1) m = bord s (i + 1) := by
          symm
          by_cases e : gt s i = gt s m
          · rw [iteP_pos e]
            refine bord_eq ⟨isBord_succ m2 e.symm, fun j hj => ?_⟩
            by_cases hj1 : 1 ≤ j
            · have := m3 j hj1 hj; omega
            · omega
          · rw [iteP_neg e]
            have hm : m = 0 := Classical.byContradiction fun hm => r ⟨by omega, e⟩
            rw [hm]
            refine bord_eq ⟨isBord_zero (by omega), fun j hj => ?_⟩
            by_cases hj1 : 1 ≤ j
            · have a1 := m3 j hj1 hj
              have a2 := (isBord_pred hj hj1).2
              rw [show j - 1 = m by omega] at a2
              exact (e a2.symm).elim
            · omega
        rw [nx]
        refine ⟨by omega, q, m0, by omega, fun _ => by omega, by omega, by omega, by omega, ⟨by omega, by omega, by simpa using h3, rfl, fun j j0 j1 j2 => ?_⟩, by omega⟩
        by_cases e : j = i
        · rw [e, gt_set_eq (by omega) (by omega)]
        · rw [gt_set_ne (by omega) j0 (fun h => e h.symm)]
          exact h5 j j0 (by omega) j2
    · refine ext_gt (by rw [borders_len]; exact h3) fun j j0 j1 => ?_
      rw [borders_gt j0 (by omega)]
      exact h5 j j0 (by omega) (by omega)

theorem find_Border_hC : Cons Try.prog [(f_find_border, find_border_ct)] := ⟨find_border_con, trivial⟩
theorem find_Border_con : Con Try.prog f_find_Border find_Border_ct := find_Border_vc find_Border_hC fun s hs => by
  simp only [findBorder]
  refine ⟨fun q => by rw [if_pos (by omega)]; exact ⟨rfl, rfl⟩, fun q => ⟨by omega, by rw [if_neg (by omega)]; exact ⟨rfl, rfl⟩⟩⟩

theorem ref_FindBorder_hC : Cons Try.prog [] := trivial
theorem ref_FindBorder_con : Con Try.prog f_ref_FindBorder ref_FindBorder_ct := ref_FindBorder_vc ref_FindBorder_hC fun s hs => by
  simp only [inI_iff, true_and, and_true, ne_eq, Int.reduceEq, not_false_eq_true, Int.toNat_zero, findBorder]
  refine ⟨fun q => by rw [if_pos (by omega)]; exact ⟨rfl, rfl⟩, fun q => ?_⟩
  rw [if_neg (by omega)]
  refine ⟨fun n out => 1 ≤ n ∧ n ≤ s.length + 1 ∧ out.length = n - 1 ∧ ∀ j, 0 ≤ j → j < n - 1 → gt out j = bord s (j + 1), fun n _ => (s.length + 1 - n).toNat, ⟨by omega, by omega, by simp, fun j h0 h1 => by omega⟩, ?_⟩
  rintro n out ⟨h0, h1, h2, h3⟩
  dsimp only
  refine ⟨fun r => ⟨by omega, fun k => 0 ≤ k ∧ k < n ∧ ∀ j, k < j → ¬ isBord s n j, fun k => k.toNat, ⟨by omega, by omega, fun j hj hb => by have := hb.2.1; omega⟩, ?_⟩, fun r => ?_⟩
  · rintro k ⟨k0, k1, k2⟩
    dsimp only
    have ht := bord_take k0 k1 r
    refine ⟨by omega, k0, by omega, by omega, by omega, by omega, r, fun t => ?_, fun t => ?_⟩
    · have nb : ¬ isBord s n k := fun hb => t (ht.2 hb)
      have : k ≠ 0 := fun e => nb (by rw [e]; exact isBord_zero h0)
      refine ⟨by omega, ⟨by omega, by omega, fun j hj => ?_⟩, by omega⟩
      by_cases e : j = k
      · rw [e]; exact nb
      · exact k2 j (by omega)
    · have hb : isBord s n k := ht.1 (Classical.byContradiction t)
      have e : bord s n = k := bord_eq ⟨hb, fun j hj => Classical.byContradiction fun c => k2 j (by omega) hj⟩
      refine ⟨by omega, by omega, ⟨by omega, by omega, by simp; omega, fun j j0 j1 => ?_⟩, by omega⟩
      by_cases e2 : j = out.length
      · rw [e2, gt_append_last, ← e]; congr 1; omega
      · rw [gt_append_l j0 (by omega)]; exact h3 j j0 (by omega)
  · refine ⟨ext_gt (by rw [borders_len]; omega) fun j j0 j1 => ?_, rfl⟩
    rw [borders_gt j0 (by omega)]
    exact h3 j j0 (by omega)

theorem law_sameInts_hC : Cons Try.prog [] := trivial
theorem law_sameInts_con : Con Try.prog f_law_sameInts law_sameInts_ct := law_sameInts_vc law_sameInts_hC fun a b h => by
  simp only [inI_iff, true_and, and_true, ne_eq, Int.reduceEq, not_false_eq_true, Int.toNat_zero, false_bo, true_bo, fitL] at *
  refine ⟨fun q e => q (by rw [e]), fun q => ⟨fun i => 0 ≤ i ∧ i ≤ a.length ∧ ∀ j : Int, 0 ≤ j → j < i → gt a j = gt b j, fun i => (a.length - i).toNat, ⟨by omega, by omega, fun j h1 h2 => by omega⟩, fun i ⟨h0, h1, h2⟩ => ?_⟩⟩
  dsimp only
  refine ⟨fun r => ⟨h0, r, h0, by omega, fun t e => t (by rw [e]), fun t => ⟨by omega, ⟨by omega, by omega, fun j j0 j1 => ?_⟩, by omega⟩⟩, fun r => ?_⟩
  · by_cases e : j = i
    · rw [e]; exact Classical.byContradiction t
    · exact h2 j j0 (by omega)
  · exact ext_gt (by omega) fun j j0 j1 => h2 j j0 (by omega)

theorem law_FindBorders_hC : Cons Try.prog [(f_find_Border, find_Border_ct), (f_ref_FindBorder, ref_FindBorder_ct), (f_law_sameInts, law_sameInts_ct)] := ⟨find_Border_con, ref_FindBorder_con, law_sameInts_con, trivial⟩
theorem law_FindBorders_con : Con Try.prog f_law_FindBorders law_FindBorders_ct := law_FindBorders_vc law_FindBorders_hC fun s hs => by
  have : fitL (findBorder s).1 := by
    unfold findBorder fitL
    split
    · simp
    · simp only [borders_len]; exact hs
  exact ⟨hs, hs, ⟨this, this⟩, by simp⟩

end Go.Proofs.Ytgnhlecfladigaa
