/- The contracts of the functions that the law reaches, and that of the law. Conditions: none. -/
import Derived.Test.YtigcaalfadoiaaaWDiffCosts
set_option linter.unusedVariables false
set_option linter.unusedSimpArgs false
set_option maxRecDepth 100000
namespace Go.Proofs.Ytigcaalfadoiaaa
open Go.Vc Go.Fu

theorem diff_fault_hC : Cons Try.prog [] := trivial
theorem diff_fault_con : Con Try.prog f_diff_fault diff_fault_ct := diff_fault_vc diff_fault_hC fun ls hls => by
  have hl : ls.length ≤ 1000 := hls
  simp only [inI_iff, true_and, and_true, ne_eq, Int.reduceEq, not_false_eq_true, Int.toNat_zero, Classical.not_not]
  refine ⟨fun x => 0 ≤ x ∧ x ≤ ls.length ∧ ∀ i : Int, 0 ≤ i → i < x → ¬ (80 < (gt ls i).length ∨ ∃ s ∈ gt ls i, 600 < s.length), fun x => (ls.length - x).toNat, ⟨by omega, by omega, fun j a b => by omega⟩, ?_⟩
  rintro x ⟨h0, h1, h2⟩
  dsimp only
  refine ⟨fun t => ⟨h0, t, fun u => ⟨fun y => 0 ≤ y ∧ y ≤ (gt ls x).length ∧ ∀ k : Int, 0 ≤ k → k < y → ¬ 600 < (gt (gt ls x) k).length, fun y => ((gt ls x).length - y).toNat, ⟨by omega, by omega, fun j a b => by omega⟩, ?_⟩, fun u => ⟨fun _ => (linesFault_bad h0 t (.inl (by omega))).symm, fun w => absurd u w⟩⟩, fun t => (linesFault_good fun i a b => h2 i a (by omega)).symm⟩
  rintro y ⟨g0, g1, g2⟩
  dsimp only
  refine ⟨fun v => ⟨g0, v, fun w => ⟨fun _ => (linesFault_bad h0 t (.inr ⟨_, gt_mem g0 v, by omega⟩)).symm, fun c => absurd (.inr g0) c⟩, fun w => ⟨by omega, ⟨by omega, by omega, fun k a b => ?_⟩, by omega⟩⟩, fun v => ⟨fun c => by omega, fun _ => ⟨by omega, ⟨by omega, by omega, fun i a b => ?_⟩, by omega⟩⟩⟩
  · by_cases e : k = y
    · subst e; omega
    · exact g2 k a (by omega)
  · by_cases e : i = x
    · subst e
      rintro (c | ⟨s, hs, c⟩)
      · omega
      · obtain ⟨k, p, q, rfl⟩ := mem_gt hs
        exact g2 k p (by omega) c
    · exact h2 i a (by omega)

theorem diff_Cost_hC : Cons Try.prog [(f_diff_fault, diff_fault_ct)] := ⟨diff_fault_con, trivial⟩
theorem diff_Cost_con : Con Try.prog f_diff_Cost diff_Cost_ct := diff_Cost_vc diff_Cost_hC fun a b _ => by
  simp only [inI_iff, true_and, and_true, ne_eq, Int.reduceEq, not_false_eq_true, Int.toNat_zero, diffCost]
  refine ⟨by simp [lsPre], fun c => by rw [if_pos c]; exact ⟨rfl, rfl⟩, fun c => ?_⟩
  have q : linesFault [a, b] = 0 := Classical.byContradiction c
  have la := linesFault_len q (a := a) (by simp)
  have lb := linesFault_len q (a := b) (by simp)
  rw [if_neg c]
  refine ⟨by omega, by omega, by omega, fun i out => -1 ≤ i ∧ i ≤ a.length ∧ out.length = a.length + 1 ∧ ∀ j : Int, i < j → j ≤ a.length → (gt out j).length = b.length + 1 ∧ ∀ k : Int, 0 ≤ k → k ≤ b.length → gt (gt out j) k = wayCost a b j k, fun i _ => (i + 1).toNat, ⟨by omega, by omega, by simp <;> omega, fun j j0 j1 => by omega⟩, ?_⟩
  rintro i out ⟨h0, h1, h2, h3⟩
  dsimp only
  refine ⟨fun t => ?_, fun t => ?_⟩
  · have ex : gt (out.set i.toNat (List.replicate ((b.length : Int) + 1).toNat 0)) i = List.replicate ((b.length : Int) + 1).toNat 0 := gt_set_eq t (by omega)
    refine ⟨by omega, by omega, by omega, t, by omega, fun y t1 => -1 ≤ y ∧ y ≤ b.length ∧ t1.length = a.length + 1 ∧ (∀ j : Int, i < j → j ≤ a.length → gt t1 j = gt out j) ∧ (gt t1 i).length = b.length + 1 ∧ ∀ k : Int, y < k → k ≤ b.length → gt (gt t1 i) k = wayCost a b i k, fun y _ => (y + 1).toNat, ⟨by omega, by omega, by simp; omega, fun j j0 j1 => gt_set_ne t (by omega) (by omega), by rw [ex]; simp <;> omega, fun k k0 k1 => by omega⟩, ?_⟩
    rintro y t1 ⟨k0, k1, k2, k3, k4, k5⟩
    dsimp only
    have step : ∀ v, 0 ≤ y → v = wayCost a b i y → -1 ≤ y - 1 ∧ y - 1 ≤ b.length ∧ (t1.set i.toNat ((gt t1 i).set y.toNat v)).length = a.length + 1 ∧ (∀ j : Int, i < j → j ≤ a.length → gt (t1.set i.toNat ((gt t1 i).set y.toNat v)) j = gt out j) ∧ (gt (t1.set i.toNat ((gt t1 i).set y.toNat v)) i).length = b.length + 1 ∧ ∀ k : Int, y - 1 < k → k ≤ b.length → gt (gt (t1.set i.toNat ((gt t1 i).set y.toNat v)) i) k = wayCost a b i k := fun v hy hv => by
      have e : gt (t1.set i.toNat ((gt t1 i).set y.toNat v)) i = (gt t1 i).set y.toNat v := gt_set_eq t (by omega)
      refine ⟨by omega, by omega, by simp; omega, fun j j0 j1 => ?_, by rw [e]; simp; omega, fun k c0 c1 => ?_⟩
      · rw [gt_set_ne t (by omega) (by omega)]; exact k3 j j0 j1
      · rw [e]
        by_cases z : k = y
        · subst z; rw [gt_set_eq hy (by omega)]; exact hv
        · rw [gt_set_ne hy (by omega) (fun w => z w.symm)]; exact k5 k (by omega) c1
    refine ⟨fun w => ⟨fun e => ?_, fun e => ⟨fun d => ?_, fun d => ?_⟩⟩, fun w => ⟨by omega, ⟨by omega, by omega, k2, fun j j0 j1 => ?_⟩, by omega⟩⟩
    · exact ⟨t, by omega, by omega, w, by omega, by omega, step _ w (by rw [e, wayCost_a]), by omega⟩
    · exact ⟨t, by omega, by omega, w, by omega, by omega, step _ w (by rw [d, wayCost_b]), by omega⟩
    · have eo := k3 (i + 1) (by omega) (by omega)
      obtain ⟨p1, p2⟩ := h3 (i + 1) (by omega) (by omega)
      have q1 := p2 (y + 1) (by omega) (by omega)
      have q2 := p2 y (by omega) (by omega)
      have q3 := k5 (y + 1) (by omega) (by omega)
      have b1 := wayCost_bd (a := a) (b := b) (show 0 ≤ i + 1 by omega) (show i + 1 ≤ a.length by omega) (show 0 ≤ y by omega) (by omega)
      have b2 := wayCost_bd (a := a) (b := b) (show 0 ≤ i by omega) (show i ≤ a.length by omega) (show 0 ≤ y + 1 by omega) (by omega)
      rw [eo]
      refine ⟨t, by omega, w, by omega, fun e' => ?_, fun e' => ?_⟩
      · have ls := wayCost_same t (by omega) w (by omega) e'
        exact ⟨by omega, by omega, by omega, by omega, by omega, by omega, by omega, by omega, by omega, by omega, by omega, step _ w (by rw [q1, ls]), by omega⟩
      · have ls := wayCost_diff t (by omega) w (by omega) e'
        rw [q2, q3]
        exact ⟨by omega, by omega, by omega, by omega, by omega, by omega, by omega, by omega, by omega, by omega, by omega, by omega, by omega, by omega, by omega, by omega, step _ w ls.symm, by omega⟩
    · by_cases z : j = i
      · subst z; exact ⟨k4, fun k c0 c1 => k5 k (by omega) c1⟩
      · rw [k3 j (by omega) j1]; exact h3 j (by omega) j1
  · obtain ⟨p1, p2⟩ := h3 0 (by omega) (by omega)
    exact ⟨by omega, by omega, by omega, by omega, by rw [p2 0 (by omega) (by omega), wayCost_all], by trivial⟩

theorem ref_LinesFault_hC : Cons Try.prog [] := trivial
theorem ref_LinesFault_con : Con Try.prog f_ref_LinesFault ref_LinesFault_ct := ref_LinesFault_vc ref_LinesFault_hC fun ls hls => by
  have hl : ls.length ≤ 1000 := hls
  simp only [inI_iff, true_and, and_true, ne_eq, Int.reduceEq, not_false_eq_true, Int.toNat_zero]
  refine ⟨fun x => 0 ≤ x ∧ x ≤ ls.length ∧ ∀ i : Int, 0 ≤ i → i < x → ¬ (80 < (gt ls i).length ∨ ∃ s ∈ gt ls i, 600 < s.length), fun x => (ls.length - x).toNat, ⟨by omega, by omega, fun j a b => by omega⟩, ?_⟩
  rintro x ⟨h0, h1, h2⟩
  dsimp only
  refine ⟨fun t => ⟨h0, t, fun u => (linesFault_bad h0 t (.inl (by omega))).symm, fun u => ⟨fun y => 0 ≤ y ∧ y ≤ (gt ls x).length ∧ ∀ k : Int, 0 ≤ k → k < y → ¬ 600 < (gt (gt ls x) k).length, fun y => ((gt ls x).length - y).toNat, ⟨by omega, by omega, fun j a b => by omega⟩, ?_⟩⟩, fun t => (linesFault_good fun i a b => h2 i a (by omega)).symm⟩
  rintro y ⟨g0, g1, g2⟩
  dsimp only
  refine ⟨fun v => ⟨g0, v, fun w => (linesFault_bad h0 t (.inr ⟨_, gt_mem g0 v, by omega⟩)).symm, fun w => ⟨by omega, ⟨by omega, by omega, fun k a b => ?_⟩, by omega⟩⟩, fun v => ⟨by omega, ⟨by omega, by omega, fun i a b => ?_⟩, by omega⟩⟩
  · by_cases e : k = y
    · subst e; omega
    · exact g2 k a (by omega)
  · by_cases e : i = x
    · subst e
      rintro (c | ⟨s, hs, c⟩)
      · omega
      · obtain ⟨k, p, q, rfl⟩ := mem_gt hs
        exact g2 k p (by omega) c
    · exact h2 i a (by omega)

theorem ref_common_hC : Cons Try.prog [] := trivial
theorem ref_common_con : Con Try.prog f_ref_common ref_common_ct := ref_common_vc ref_common_hC fun a b ⟨ha, hb⟩ => by
  have la : a.length ≤ 80 := ha
  have lb : b.length ≤ 80 := hb
  simp only [inI_iff, true_and, and_true, ne_eq, Int.reduceEq, not_false_eq_true, Int.toNat_zero, List.length_set]
  refine ⟨by omega, by omega, by omega, fun x row => 0 ≤ x ∧ x ≤ a.length ∧ row.length = b.length + 1 ∧ ∀ k : Int, 0 ≤ k → k ≤ b.length → gt row k = lcsP a b x k, fun x _ => (a.length - x).toNat, ⟨by omega, by omega, by simp <;> omega, fun k k0 k1 => ?_⟩, ?_⟩
  · rw [gt_rep k0 (by omega), lcsP_zero_l]; rfl
  rintro x row ⟨h0, h1, h2, h3⟩
  dsimp only
  refine ⟨fun t => ⟨h0, t, by omega, by omega, by omega, fun y nx => 0 ≤ y ∧ y ≤ b.length ∧ nx.length = b.length + 1 ∧ ∀ k : Int, 0 ≤ k → k ≤ y → gt nx k = lcsP a b (x + 1) k, fun y _ => (b.length - y).toNat, ⟨by omega, by omega, by simp <;> omega, fun k k0 k1 => ?_⟩, ?_⟩, fun t => ⟨by omega, by omega, ?_⟩⟩
  · rw [gt_rep k0 (by omega), show k = 0 by omega, lcsP_zero_r]; rfl
  · rintro y nx ⟨g0, g1, g2, g3⟩
    dsimp only
    refine ⟨fun u => ?_, fun u => ⟨by omega, ⟨by omega, by omega, g2, fun k k0 k1 => g3 k k0 (by omega)⟩, by omega⟩⟩
    have e1 := h3 (y + 1) (by omega) (by omega)
    have e2 := h3 y g0 (by omega)
    have e3 := g3 y g0 (by omega)
    have ls := lcsP_step h0 t g0 u
    have bd := lcs_len (a.take x.toNat).reverse (b.take y.toNat).reverse
    have bd1 : lcsP a b x y ≤ 80 := by
      unfold lcsP
      simp only [List.length_reverse, List.length_take] at bd
      omega
    rw [e1, e2, e3]
    refine ⟨g0, u, by omega, by omega, by omega, by omega, g0, by omega, by omega, by omega, fun c => ?_, fun c => ?_⟩
    · rw [if_pos c] at ls
      refine ⟨by omega, by omega, by omega, by omega, g0, by omega, by omega, by omega, by omega, by omega, ⟨by omega, by omega, by simp; omega, fun k k0 k1 => ?_⟩, by omega⟩
      by_cases z : k = y + 1
      · subst z
        rw [gt_set_eq k0 (by simp; omega), gt_set_eq k0 (by omega), ls]
        omega
      · rw [gt_set_ne (by omega) k0 (fun w => z w.symm), gt_set_ne (by omega) k0 (fun w => z w.symm)]
        exact g3 k k0 (by omega)
    · rw [if_neg c] at ls
      refine ⟨by omega, ⟨by omega, by omega, by simp; omega, fun k k0 k1 => ?_⟩, by omega⟩
      by_cases z : k = y + 1
      · subst z
        rw [gt_set_eq k0 (by omega), ls]
        omega
      · rw [gt_set_ne (by omega) k0 (fun w => z w.symm)]
        exact g3 k k0 (by omega)
  · rw [h3 b.length (by omega) (by omega), show x = a.length by omega, lcsP_end]

theorem ref_DiffCost_hC : Cons Try.prog [(f_ref_LinesFault, ref_LinesFault_ct), (f_ref_common, ref_common_ct)] := ⟨ref_LinesFault_con, ref_common_con, trivial⟩
theorem ref_DiffCost_con : Con Try.prog f_ref_DiffCost ref_DiffCost_ct := ref_DiffCost_vc ref_DiffCost_hC fun a b _ => by
  simp only [inI_iff, true_and, and_true, ne_eq, Int.reduceEq, not_false_eq_true, Int.toNat_zero, diffCost]
  refine ⟨by simp [lsPre], fun c => by rw [if_pos c]; exact ⟨rfl, rfl⟩, fun c => ?_⟩
  have q : linesFault [a, b] = 0 := Classical.byContradiction c
  have la := linesFault_len q (a := a) (by simp)
  have lb := linesFault_len q (a := b) (by simp)
  have bd := lcs_len a b
  rw [if_neg c]
  exact ⟨by omega, ⟨la, lb⟩, by omega, by omega, rfl, rfl⟩

theorem law_DiffCosts_hC : Cons Try.prog [(f_diff_Cost, diff_Cost_ct), (f_ref_DiffCost, ref_DiffCost_ct)] := ⟨diff_Cost_con, ref_DiffCost_con, trivial⟩
theorem law_DiffCosts_con : Con Try.prog f_law_DiffCosts law_DiffCosts_ct := law_DiffCosts_vc law_DiffCosts_hC fun a b _ => ⟨trivial, trivial, by simp⟩

end Go.Proofs.Ytigcaalfadoiaaa
