/- The contracts of the functions that the law reaches, and that of the law. Conditions: none. -/
import Derived.Test.YtigcaalfadoiaaaWDiffSteps
set_option linter.unusedVariables false
set_option linter.unusedSimpArgs false
set_option maxRecDepth 100000
namespace Go.Proofs.Ytigcaalfadoiaaa
open Go.Vc Go.Fu

theorem diff_fault_hC : Cons Try.prog [] := trivial
theorem diff_fault_con : Con Try.prog f_diff_fault diff_fault_ct := diff_fault_vc diff_fault_hC fun ls hls => by
  have hl : ls.length ≤ 1000 := hls
  simp only [inI_iff, true_and, and_true, ne_eq, Int.reduceEq, not_false_eq_true, Int.toNat_zero, Classical.not_not]
  refine ⟨fun x => 0 ≤ x ∧ x ≤ ls.length ∧ ∀ i : Int, 0 ≤ i → i < x → ¬ (80 < (gt ls i).length ∨ ∃ s ∈ gt ls i, 600 < s.length), fun x => (ls.length - x).toNat, ⟨by omega, by omega, fun j a b => by omega⟩, ?_⟩
  rintro x ⟨h0, h1, h2⟩
  dsimp only
  refine ⟨fun t => ⟨h0, t, fun u => ⟨fun y => 0 ≤ y ∧ y ≤ (gt ls x).length ∧ ∀ k : Int, 0 ≤ k → k < y → ¬ 600 < (gt (gt ls x) k).length, fun y => ((gt ls x).length - y).toNat, ⟨by omega, by omega, fun j a b => by omega⟩, ?_⟩, fun u => ⟨fun _ => (linesFault_bad h0 t (.inl (by omega))).symm, fun w => absurd u w⟩⟩, fun t => (linesFault_good fun i a b => h2 i a (by omega)).symm⟩
  rintro y ⟨g0, g1, g2⟩
  dsimp only
  refine ⟨fun v => ⟨g0, v, fun w => ⟨fun _ => (linesFault_bad h0 t (.inr ⟨_, gt_mem g0 v, by omega⟩)).symm, fun c => absurd (.inr g0) c⟩, fun w => ⟨by omega, ⟨by omega, by omega, fun k a b => ?_⟩, by omega⟩⟩, fun v => ⟨fun c => by omega, fun _ => ⟨by omega, ⟨by omega, by omega, fun i a b => ?_⟩, by omega⟩⟩⟩
  · by_cases e : k = y
    · subst e; omega
    · exact g2 k a (by omega)
  · by_cases e : i = x
    · subst e
      rintro (c | ⟨s, hs, c⟩)
      · omega
      · obtain ⟨k, p, q, rfl⟩ := mem_gt hs
        exact g2 k p (by omega) c
    · exact h2 i a (by omega)

theorem diff_Way_hC : Cons Try.prog [] := trivial
theorem diff_Way_con : Con Try.prog f_diff_Way diff_Way_ct := diff_Way_vc diff_Way_hC fun a b ⟨ha, hb⟩ => by
  have la : a.length ≤ 80 := ha
  have lb : b.length ≤ 80 := hb
  simp only [inI_iff, true_and, and_true, ne_eq, Int.reduceEq, not_false_eq_true, Int.toNat_zero]
  refine ⟨by omega, by omega, by omega, fun i out => -1 ≤ i ∧ i ≤ a.length ∧ out.length = a.length + 1 ∧ ∀ j : Int, i < j → j ≤ a.length → (gt out j).length = b.length + 1 ∧ ∀ k : Int, 0 ≤ k → k ≤ b.length → gt (gt out j) k = wayCost a b j k, fun i _ => (i + 1).toNat, ⟨by omega, by omega, by simp <;> omega, fun j j0 j1 => by omega⟩, ?_⟩
  rintro i out ⟨h0, h1, h2, h3⟩
  dsimp only
  refine ⟨fun t => ?_, fun t => ?_⟩
  · have ex : gt (out.set i.toNat (List.replicate ((b.length : Int) + 1).toNat 0)) i = List.replicate ((b.length : Int) + 1).toNat 0 := gt_set_eq t (by omega)
    refine ⟨by omega, by omega, by omega, t, by omega, fun y t1 => -1 ≤ y ∧ y ≤ b.length ∧ t1.length = a.length + 1 ∧ (∀ j : Int, i < j → j ≤ a.length → gt t1 j = gt out j) ∧ (gt t1 i).length = b.length + 1 ∧ ∀ k : Int, y < k → k ≤ b.length → gt (gt t1 i) k = wayCost a b i k, fun y _ => (y + 1).toNat, ⟨by omega, by omega, by simp; omega, fun j j0 j1 => gt_set_ne t (by omega) (by omega), by rw [ex]; simp <;> omega, fun k k0 k1 => by omega⟩, ?_⟩
    rintro y t1 ⟨k0, k1, k2, k3, k4, k5⟩
    dsimp only
    have step : ∀ v, 0 ≤ y → v = wayCost a b i y → -1 ≤ y - 1 ∧ y - 1 ≤ b.length ∧ (t1.set i.toNat ((gt t1 i).set y.toNat v)).length = a.length + 1 ∧ (∀ j : Int, i < j → j ≤ a.length → gt (t1.set i.toNat ((gt t1 i).set y.toNat v)) j = gt out j) ∧ (gt (t1.set i.toNat ((gt t1 i).set y.toNat v)) i).length = b.length + 1 ∧ ∀ k : Int, y - 1 < k → k ≤ b.length → gt (gt (t1.set i.toNat ((gt t1 i).set y.toNat v)) i) k = wayCost a b i k := fun v hy hv => by
      have e : gt (t1.set i.toNat ((gt t1 i).set y.toNat v)) i = (gt t1 i).set y.toNat v := gt_set_eq t (by omega)
      refine ⟨by omega, by omega, by simp; omega, fun j j0 j1 => ?_, by rw [e]; simp; omega, fun k c0 c1 => ?_⟩
      · rw [gt_set_ne t (by omega) (by omega)]; exact k3 j j0 j1
      · rw [e]
        by_cases z : k = y
        · subst z; rw [gt_set_eq hy (by omega)]; exact hv
        · rw [gt_set_ne hy (by omega) (fun w => z w.symm)]; exact k5 k (by omega) c1
    refine ⟨fun w => ⟨fun e => ?_, fun e => ⟨fun d => ?_, fun d => ?_⟩⟩, fun w => ⟨by omega, ⟨by omega, by omega, k2, fun j j0 j1 => ?_⟩, by omega⟩⟩
    · exact ⟨t, by omega, by omega, w, by omega, by omega, step _ w (by rw [e, wayCost_a]), by omega⟩
    · exact ⟨t, by omega, by omega, w, by omega, by omega, step _ w (by rw [d, wayCost_b]), by omega⟩
    · have eo := k3 (i + 1) (by omega) (by omega)
      obtain ⟨p1, p2⟩ := h3 (i + 1) (by omega) (by omega)
      have q1 := p2 (y + 1) (by omega) (by omega)
      have q2 := p2 y (by omega) (by omega)
      have q3 := k5 (y + 1) (by omega) (by omega)
      have b1 := wayCost_bd (a := a) (b := b) (show 0 ≤ i + 1 by omega) (show i + 1 ≤ a.length by omega) (show 0 ≤ y by omega) (by omega)
      have b2 := wayCost_bd (a := a) (b := b) (show 0 ≤ i by omega) (show i ≤ a.length by omega) (show 0 ≤ y + 1 by omega) (by omega)
      rw [eo]
      refine ⟨t, by omega, w, by omega, fun e' => ?_, fun e' => ?_⟩
      · have ls := wayCost_same t (by omega) w (by omega) e'
        exact ⟨by omega, by omega, by omega, by omega, by omega, by omega, by omega, by omega, by omega, by omega, by omega, step _ w (by rw [q1, ls]), by omega⟩
      · have ls := wayCost_diff t (by omega) w (by omega) e'
        rw [q2, q3]
        exact ⟨by omega, by omega, by omega, by omega, by omega, by omega, by omega, by omega, by omega, by omega, by omega, by omega, by omega, by omega, by omega, by omega, step _ w ls.symm, by omega⟩
    · by_cases z : j = i
      · subst z; exact ⟨k4, fun k c0 c1 => k5 k (by omega) c1⟩
      · rw [k3 j (by omega) j1]; exact h3 j (by omega) j1
  · have cst : ∀ j : Int, 0 ≤ j → j ≤ a.length → (gt out j).length = b.length + 1 ∧ ∀ k : Int, 0 ≤ k → k ≤ b.length → gt (gt out j) k = wayCost a b j k := fun j j0 j1 => h3 j (by omega) j1
    clear h3
    refine ⟨fun i k o => 0 ≤ i ∧ i ≤ a.length ∧ 0 ≤ k ∧ k ≤ b.length ∧ cntOk o (i + k) ∧ (wayKinds (a.drop i.toNat) (b.drop k.toNat)).foldl addStep o = stepsOf (wayKinds a b), fun i k _ => (a.length - i + (b.length - k)).toNat, ⟨by omega, by omega, by omega, by omega, ⟨by simp, fun j j0 j1 => by simp at j1; omega⟩, by simp [stepsOf]⟩, ?_⟩
    rintro i k o ⟨g0, g1, g2, g3, g4, g5⟩
    dsimp only
    have oc : ∀ j : Int, 0 ≤ j → j < o.length → 0 ≤ (gt o j).2 ∧ (gt o j).2 ≤ i + k := g4.2
    have ol : (o.length : Int) ≤ i + k := g4.1
    refine ⟨fun u => ⟨fun _ => g0, fun v => v.1, fun _ => g2, fun v => v.2, fun v => ?_, fun v => ?_⟩, fun u => ?_⟩
    · have hw := way_keep g0 v.1.1 g2 v.1.2 v.2
      rw [hw, List.foldl_cons] at g5
      have hc := cnt_add (k := 1) g4 (by omega)
      rw [show i + k + 1 = i + 1 + k by omega] at hc
      refine ⟨fun _ => by omega, fun _ => by omega, fun _ => by omega, fun w => ?_, fun w => ?_⟩
      · have := oc ((o.length : Int) - 1) (by omega) (by omega)
        rw [add_more w] at g5 hc
        exact ⟨by omega, by omega, by omega, by omega, by omega, by omega, by omega, by omega, ⟨by omega, by omega, by omega, by omega, by rw [show i + 1 + (k + 1) = i + 1 + k + 1 by omega]; exact ⟨by have := hc.1; omega, fun j j0 j1 => by have := hc.2 j j0 j1; omega⟩, g5⟩, by omega⟩
      · rw [add_new w] at g5 hc
        exact ⟨by omega, by omega, by omega, ⟨by omega, by omega, by omega, by omega, by rw [show i + 1 + (k + 1) = i + 1 + k + 1 by omega]; exact ⟨by have := hc.1; omega, fun j j0 j1 => by have := hc.2 j j0 j1; omega⟩, g5⟩, by omega⟩
    · have c1 : i < a.length → gt (gt out (i + 1)) k = wayCost a b (i + 1) k := fun w => (cst (i + 1) (by omega) (by omega)).2 k g2 g3
      have c2 : gt (gt out i) k = wayCost a b i k := (cst i g0 g1).2 k g2 g3
      have l1 : i < a.length → (gt out (i + 1)).length = b.length + 1 := fun w => (cst (i + 1) (by omega) (by omega)).1
      have l2 := (cst i g0 g1).1
      refine ⟨fun _ => by omega, fun _ => by omega, fun w => by omega, fun _ => g2, fun w => by rw [l1 w]; omega, fun w => by rw [c1 w]; have := wayCost_bd (a := a) (b := b) (show 0 ≤ i + 1 by omega) (by omega) g2 g3; omega, fun _ => g0, fun _ => by omega, fun _ => g2, fun _ => by rw [l2]; omega, fun w => ?_, fun w => ?_⟩
      · rw [c1 w.1, c2] at w
        have hw := way_drop g0 w.1 g2 g3 (fun c => v ⟨⟨w.1, c.1⟩, c.2⟩) ((cost_lcs g0 w.1).1 w.2)
        rw [hw, List.foldl_cons] at g5
        have hc := cnt_add (k := 2) g4 (by omega)
        rw [show i + k + 1 = i + 1 + k by omega] at hc
        refine ⟨fun _ => by omega, fun _ => by omega, fun _ => by omega, fun z => ?_, fun z => ?_⟩
        · have := oc ((o.length : Int) - 1) (by omega) (by omega)
          rw [add_more z] at g5 hc
          exact ⟨by omega, by omega, by omega, by omega, by omega, by omega, by omega, ⟨by omega, by omega, by omega, by omega, hc, g5⟩, by omega⟩
        · rw [add_new z] at g5 hc
          exact ⟨by omega, by omega, ⟨by omega, by omega, by omega, by omega, hc, g5⟩, by omega⟩
      · have hk : k < b.length := by
          rcases Int.lt_or_le k b.length with c | c
          · exact c
          · have hi : i < a.length := by omega
            refine absurd ⟨hi, ?_⟩ w
            rw [c1 hi, c2, cost_lcs g0 hi]
            exact lcs_end c
        have hw := way_take g0 g1 g2 hk (fun c => v ⟨⟨c.1, hk⟩, c.2⟩) fun c => w ⟨c.1, by rw [c1 c.1, c2, cost_lcs g0 c.1]; exact c.2⟩
        rw [hw, List.foldl_cons] at g5
        have hc := cnt_add (k := 3) g4 (by omega)
        rw [show i + k + 1 = i + (k + 1) by omega] at hc
        refine ⟨fun _ => by omega, fun _ => by omega, fun _ => by omega, fun z => ?_, fun z => ?_⟩
        · have := oc ((o.length : Int) - 1) (by omega) (by omega)
          rw [add_more z] at g5 hc
          exact ⟨by omega, by omega, by omega, by omega, by omega, by omega, by omega, ⟨by omega, by omega, by omega, by omega, hc, g5⟩, by omega⟩
        · rw [add_new z] at g5 hc
          exact ⟨by omega, by omega, ⟨by omega, by omega, by omega, by omega, hc, g5⟩, by omega⟩
    · rw [show a.drop i.toNat = [] from List.drop_of_length_le (by omega), show b.drop k.toNat = [] from List.drop_of_length_le (by omega)] at g5
      simpa [wayKinds] using g5

theorem diff_Steps_hC : Cons Try.prog [(f_diff_fault, diff_fault_ct), (f_diff_Way, diff_Way_ct)] := ⟨diff_fault_con, diff_Way_con, trivial⟩
theorem diff_Steps_con : Con Try.prog f_diff_Steps diff_Steps_ct := diff_Steps_vc diff_Steps_hC fun a b _ => by
  simp only [inI_iff, true_and, and_true, ne_eq, Int.reduceEq, not_false_eq_true, Int.toNat_zero, diffSteps]
  refine ⟨by simp [lsPre], fun c => by rw [if_pos c]; exact ⟨rfl, rfl⟩, fun c => ?_⟩
  have q : linesFault [a, b] = 0 := Classical.byContradiction c
  have la := linesFault_len q (a := a) (by simp)
  have lb := linesFault_len q (a := b) (by simp)
  rw [if_neg c]
  exact ⟨⟨la, lb⟩, rfl, rfl⟩

theorem ref_LinesFault_hC : Cons Try.prog [] := trivial
theorem ref_LinesFault_con : Con Try.prog f_ref_LinesFault ref_LinesFault_ct := ref_LinesFault_vc ref_LinesFault_hC fun ls hls => by
  have hl : ls.length ≤ 1000 := hls
  simp only [inI_iff, true_and, and_true, ne_eq, Int.reduceEq, not_false_eq_true, Int.toNat_zero]
  refine ⟨fun x => 0 ≤ x ∧ x ≤ ls.length ∧ ∀ i : Int, 0 ≤ i → i < x → ¬ (80 < (gt ls i).length ∨ ∃ s ∈ gt ls i, 600 < s.length), fun x => (ls.length - x).toNat, ⟨by omega, by omega, fun j a b => by omega⟩, ?_⟩
  rintro x ⟨h0, h1, h2⟩
  dsimp only
  refine ⟨fun t => ⟨h0, t, fun u => (linesFault_bad h0 t (.inl (by omega))).symm, fun u => ⟨fun y => 0 ≤ y ∧ y ≤ (gt ls x).length ∧ ∀ k : Int, 0 ≤ k → k < y → ¬ 600 < (gt (gt ls x) k).length, fun y => ((gt ls x).length - y).toNat, ⟨by omega, by omega, fun j a b => by omega⟩, ?_⟩⟩, fun t => (linesFault_good fun i a b => h2 i a (by omega)).symm⟩
  rintro y ⟨g0, g1, g2⟩
  dsimp only
  refine ⟨fun v => ⟨g0, v, fun w => (linesFault_bad h0 t (.inr ⟨_, gt_mem g0 v, by omega⟩)).symm, fun w => ⟨by omega, ⟨by omega, by omega, fun k a b => ?_⟩, by omega⟩⟩, fun v => ⟨by omega, ⟨by omega, by omega, fun i a b => ?_⟩, by omega⟩⟩
  · by_cases e : k = y
    · subst e; omega
    · exact g2 k a (by omega)
  · by_cases e : i = x
    · subst e
      rintro (c | ⟨s, hs, c⟩)
      · omega
      · obtain ⟨k, p, q, rfl⟩ := mem_gt hs
        exact g2 k p (by omega) c
    · exact h2 i a (by omega)

theorem ref_common_hC : Cons Try.prog [] := trivial
theorem ref_common_con : Con Try.prog f_ref_common ref_common_ct := ref_common_vc ref_common_hC fun a b ⟨ha, hb⟩ => by
  have la : a.length ≤ 80 := ha
  have lb : b.length ≤ 80 := hb
  simp only [inI_iff, true_and, and_true, ne_eq, Int.reduceEq, not_false_eq_true, Int.toNat_zero, List.length_set]
  refine ⟨by omega, by omega, by omega, fun x row => 0 ≤ x ∧ x ≤ a.length ∧ row.length = b.length + 1 ∧ ∀ k : Int, 0 ≤ k → k ≤ b.length → gt row k = lcsP a b x k, fun x _ => (a.length - x).toNat, ⟨by omega, by omega, by simp <;> omega, fun k k0 k1 => ?_⟩, ?_⟩
  · rw [gt_rep k0 (by omega), lcsP_zero_l]; rfl
  rintro x row ⟨h0, h1, h2, h3⟩
  dsimp only
  refine ⟨fun t => ⟨h0, t, by omega, by omega, by omega, fun y nx => 0 ≤ y ∧ y ≤ b.length ∧ nx.length = b.length + 1 ∧ ∀ k : Int, 0 ≤ k → k ≤ y → gt nx k = lcsP a b (x + 1) k, fun y _ => (b.length - y).toNat, ⟨by omega, by omega, by simp <;> omega, fun k k0 k1 => ?_⟩, ?_⟩, fun t => ⟨by omega, by omega, ?_⟩⟩
  · rw [gt_rep k0 (by omega), show k = 0 by omega, lcsP_zero_r]; rfl
  · rintro y nx ⟨g0, g1, g2, g3⟩
    dsimp only
    refine ⟨fun u => ?_, fun u => ⟨by omega, ⟨by omega, by omega, g2, fun k k0 k1 => g3 k k0 (by omega)⟩, by omega⟩⟩
    have e1 := h3 (y + 1) (by omega) (by omega)
    have e2 := h3 y g0 (by omega)
    have e3 := g3 y g0 (by omega)
    have ls := lcsP_step h0 t g0 u
    have bd := lcs_len (a.take x.toNat).reverse (b.take y.toNat).reverse
    have bd1 : lcsP a b x y ≤ 80 := by
      unfold lcsP
      simp only [List.length_reverse, List.length_take] at bd
      omega
    rw [e1, e2, e3]
    refine ⟨g0, u, by omega, by omega, by omega, by omega, g0, by omega, by omega, by omega, fun c => ?_, fun c => ?_⟩
    · rw [if_pos c] at ls
      refine ⟨by omega, by omega, by omega, by omega, g0, by omega, by omega, by omega, by omega, by omega, ⟨by omega, by omega, by simp; omega, fun k k0 k1 => ?_⟩, by omega⟩
      by_cases z : k = y + 1
      · subst z
        rw [gt_set_eq k0 (by simp; omega), gt_set_eq k0 (by omega), ls]
        omega
      · rw [gt_set_ne (by omega) k0 (fun w => z w.symm), gt_set_ne (by omega) k0 (fun w => z w.symm)]
        exact g3 k k0 (by omega)
    · rw [if_neg c] at ls
      refine ⟨by omega, ⟨by omega, by omega, by simp; omega, fun k k0 k1 => ?_⟩, by omega⟩
      by_cases z : k = y + 1
      · subst z
        rw [gt_set_eq k0 (by omega), ls]
        omega
      · rw [gt_set_ne (by omega) k0 (fun w => z w.symm)]
        exact g3 k k0 (by omega)
  · rw [h3 b.length (by omega) (by omega), show x = a.length by omega, lcsP_end]

theorem ref_DiffSteps_hC : Cons Try.prog [(f_ref_LinesFault, ref_LinesFault_ct), (f_ref_common, ref_common_ct)] := ⟨ref_LinesFault_con, ref_common_con, trivial⟩
theorem ref_DiffSteps_con : Con Try.prog f_ref_DiffSteps ref_DiffSteps_ct := ref_DiffSteps_vc ref_DiffSteps_hC fun a b _ => by
  simp only [inI_iff, true_and, and_true, ne_eq, Int.reduceEq, not_false_eq_true, Int.toNat_zero, diffSteps]
  refine ⟨by simp [lsPre], fun c => by rw [if_pos c]; exact ⟨rfl, rfl⟩, fun c => ?_⟩
  have q : linesFault [a, b] = 0 := Classical.byContradiction c
  have la := linesFault_len q (a := a) (by simp)
  have lb := linesFault_len q (a := b) (by simp)
  rw [if_neg c]
  have et : ∀ l : Lines, List.take ((l.length : Int)).toNat l = l := fun l => List.take_of_length_le (by omega)
  have d0 : ∀ l : Lines, List.drop (Int.toNat 0) l = l := fun l => rfl
  have d1 : ∀ l : Lines, List.drop (0 + 1 : Int).toNat l = l.drop 1 := fun l => rfl
  simp only [et, Int.toNat_one]
  refine ⟨fun x y ks => x.length ≤ 80 ∧ y.length ≤ 80 ∧ ks.length + x.length + y.length ≤ 160 ∧ ks ++ wayKinds x y = wayKinds a b, fun x y _ => x.length + y.length, ⟨la, lb, by simp; omega, by simp⟩, ?_⟩
  rintro x y ks ⟨h0, h1, h2, h3⟩
  dsimp only
  refine ⟨fun t => ⟨fun _ => by omega, fun u => u.1, fun _ => by omega, fun u => u.2, fun u => ?_, fun u => ⟨fun _ => by omega, fun _ => by omega, fun _ => by omega, fun _ => ⟨by simp only [linesPre, List.length_drop]; omega, h1⟩, fun _ => ⟨h0, h1⟩, fun v => ?_, fun v => ?_⟩⟩, fun t => ?_⟩
  · have hw := way_keep (i := 0) (k := 0) (by omega) u.1.1 (by omega) u.1.2 u.2
    simp only [d0, d1] at hw
    rw [hw] at h3
    exact ⟨by omega, by omega, by omega, by omega, by omega, by omega, by omega, ⟨by simp only [List.length_drop]; omega, by simp only [List.length_drop]; omega, by simp only [List.length_append, List.length_drop, List.length_cons, List.length_nil]; omega, by simpa using h3⟩, by simp only [List.length_drop]; omega⟩
  · have hw := way_drop (i := 0) (k := 0) (by omega) v.1 (by omega) (by omega) (fun c => u ⟨⟨v.1, c.1⟩, c.2⟩) (by simp only [d0, d1]; omega)
    simp only [d0, d1] at hw
    rw [hw] at h3
    exact ⟨by omega, by omega, by omega, by omega, ⟨by simp only [List.length_drop]; omega, by omega, by simp only [List.length_append, List.length_drop, List.length_cons, List.length_nil]; omega, by simpa using h3⟩, by simp only [List.length_drop]; omega⟩
  · have hk : 0 < (y.length : Int) := by
      rcases Int.lt_or_le 0 y.length with c | c
      · exact c
      · have : y = [] := List.length_eq_zero_iff.1 (by omega)
        subst this
        exact absurd ⟨by omega, by rw [lcs_nil, lcs_nil]⟩ v
    have hw := way_take (i := 0) (k := 0) (by omega) (by omega) (by omega) hk (fun c => u ⟨⟨c.1, hk⟩, c.2⟩) (fun c => v ⟨c.1, by have := c.2; simp only [d0, d1] at this; omega⟩)
    simp only [d0, d1] at hw
    rw [hw] at h3
    exact ⟨by omega, by omega, by omega, by omega, ⟨by omega, by simp only [List.length_drop]; omega, by simp only [List.length_append, List.length_drop, List.length_cons, List.length_nil]; omega, by simpa using h3⟩, by simp only [List.length_drop]; omega⟩
  · have e1 : x = [] := List.length_eq_zero_iff.1 (by omega)
    have e2 : y = [] := List.length_eq_zero_iff.1 (by omega)
    subst e1; subst e2
    have hk : ks = wayKinds a b := by simpa [wayKinds] using h3
    have kl : ks.length ≤ 160 := by simp at h2; omega
    refine ⟨fun z out => 0 ≤ z ∧ z ≤ ks.length ∧ out = stepsOf (ks.take z.toNat) ∧ cntOk out z ∧ (0 < z → 0 < (out.length : Int) ∧ (gt out ((out.length : Int) - 1)).1 = gt ks (z - 1)) ∧ (z = 0 → out = []), fun z _ => (ks.length - z).toNat, ⟨by omega, by omega, by simp [stepsOf], ⟨by simp, fun j j0 j1 => by simp at j1; omega⟩, fun c => by omega, fun _ => rfl⟩, ?_⟩
    rintro z out ⟨g0, g1, g2, g3, g4, g5⟩
    dsimp only
    have oc := g3.2
    have ol := g3.1
    refine ⟨fun u => ⟨g0, u, fun _ => by omega, fun _ => by omega, fun _ => by omega, fun v => ?_, fun v => ?_⟩, fun u => ⟨?_, by trivial⟩⟩
    · have w := g4 v.1
      rw [v.2] at w
      have := oc ((out.length : Int) - 1) (by omega) (by omega)
      have ea := add_more w
      rw [← ea]
      refine ⟨by omega, by omega, by omega, by omega, by omega, by omega, by omega, ⟨by omega, by omega, by rw [steps_succ g0 u, ← g2], cnt_add g3 g0, fun _ => ?_, fun c => by omega⟩, by omega⟩
      rw [show z + 1 - 1 = z by omega]; exact add_last _ _
    · have w : ¬ (0 < (out.length : Int) ∧ (gt out ((out.length : Int) - 1)).1 = gt ks z) := fun c => by
        by_cases e : z = 0
        · have := g5 e; rw [this] at c; simp at c
        · exact v ⟨by omega, by rw [← (g4 (by omega)).2]; exact c.2⟩
      have ea := add_new w
      rw [← ea]
      refine ⟨by omega, by omega, ⟨by omega, by omega, by rw [steps_succ g0 u, ← g2], cnt_add g3 g0, fun _ => ?_, fun c => by omega⟩, by omega⟩
      rw [show z + 1 - 1 = z by omega]; exact add_last _ _
    · rw [g2, List.take_of_length_le (by omega), hk]

theorem law_DiffSteps_hC : Cons Try.prog [(f_diff_Steps, diff_Steps_ct), (f_ref_DiffSteps, ref_DiffSteps_ct)] := ⟨diff_Steps_con, ref_DiffSteps_con, trivial⟩
theorem law_DiffSteps_con : Con Try.prog f_law_DiffSteps law_DiffSteps_ct := law_DiffSteps_vc law_DiffSteps_hC fun a b _ => by
  have hl := diffSteps_len a b
  simp only [inI_iff, true_and, and_true, ne_eq, Int.reduceEq, not_false_eq_true, Int.toNat_zero]
  refine ⟨fun c => by simp at c, fun _ => ⟨fun i => 0 ≤ i ∧ i ≤ (diffSteps a b).1.length, fun i => ((diffSteps a b).1.length - i).toNat, by omega, ?_⟩⟩
  rintro i ⟨h0, h1⟩
  dsimp only
  exact ⟨fun t => ⟨h0, t, h0, t, fun c => absurd trivial c, fun _ => ⟨by omega, ⟨by omega, by omega⟩, by omega⟩⟩, fun _ => trivial⟩

end Go.Proofs.Ytigcaalfadoiaaa
