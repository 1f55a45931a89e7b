/- The contracts of the functions that the law reaches, and that of the law. Conditions: none. -/
import Derived.Test.YtdbgppfoenoijaaWMergeMerges
import Derived.Test.YtdbgppfoenoijaaH7
import Derived.Test.YtdbgppfoenoijaaH9
set_option linter.unusedVariables false
set_option linter.unusedSimpArgs false
set_option maxRecDepth 100000
namespace Go.Proofs.Ytdbgppfoenoijaa
open Go.Vc Go.Fu

theorem diff_Way_hC : Cons Try.prog [] := trivial
theorem diff_Way_con : Con Try.prog f_diff_Way diff_Way_ct := diff_Way_vc diff_Way_hC fun a b ⟨ha, hb⟩ => by
  have la : a.length ≤ 80 := ha
  have lb : b.length ≤ 80 := hb
  simp only [inI_iff, true_and, and_true, ne_eq, Int.reduceEq, not_false_eq_true, Int.toNat_zero]
  refine ⟨by omega, by omega, by omega, fun i out => -1 ≤ i ∧ i ≤ a.length ∧ out.length = a.length + 1 ∧ ∀ j : Int, i < j → j ≤ a.length → (gt out j).length = b.length + 1 ∧ ∀ k : Int, 0 ≤ k → k ≤ b.length → gt (gt out j) k = wayCost a b j k, fun i _ => (i + 1).toNat, ⟨by omega, by omega, by simp <;> omega, fun j j0 j1 => by omega⟩, ?_⟩
  rintro i out ⟨h0, h1, h2, h3⟩
  dsimp only
  refine ⟨fun t => ?_, fun t => ?_⟩
  · have ex : gt (out.set i.toNat (List.replicate ((b.length : Int) + 1).toNat 0)) i = List.replicate ((b.length : Int) + 1).toNat 0 := gt_set_eq t (by omega)
    refine ⟨by omega, by omega, by omega, t, by omega, fun y t1 => -1 ≤ y ∧ y ≤ b.length ∧ t1.length = a.length + 1 ∧ (∀ j : Int, i < j → j ≤ a.length → gt t1 j = gt out j) ∧ (gt t1 i).length = b.length + 1 ∧ ∀ k : Int, y < k → k ≤ b.length → gt (gt t1 i) k = wayCost a b i k, fun y _ => (y + 1).toNat, ⟨by omega, by omega, by simp; omega, fun j j0 j1 => gt_set_ne t (by omega) (by omega), by rw [ex]; simp <;> omega, fun k k0 k1 => by omega⟩, ?_⟩
    rintro y t1 ⟨k0, k1, k2, k3, k4, k5⟩
    dsimp only
    have step : ∀ v, 0 ≤ y → v = wayCost a b i y → -1 ≤ y - 1 ∧ y - 1 ≤ b.length ∧ (t1.set i.toNat ((gt t1 i).set y.toNat v)).length = a.length + 1 ∧ (∀ j : Int, i < j → j ≤ a.length → gt (t1.set i.toNat ((gt t1 i).set y.toNat v)) j = gt out j) ∧ (gt (t1.set i.toNat ((gt t1 i).set y.toNat v)) i).length = b.length + 1 ∧ ∀ k : Int, y - 1 < k → k ≤ b.length → gt (gt (t1.set i.toNat ((gt t1 i).set y.toNat v)) i) k = wayCost a b i k := fun v hy hv => by
      have e : gt (t1.set i.toNat ((gt t1 i).set y.toNat v)) i = (gt t1 i).set y.toNat v := gt_set_eq t (by omega)
      refine ⟨by omega, by omega, by simp; omega, fun j j0 j1 => ?_, by rw [e]; simp; omega, fun k c0 c1 => ?_⟩
      · rw [gt_set_ne t (by omega) (by omega)]; exact k3 j j0 j1
      · rw [e]
        by_cases z : k = y
        · subst z; rw [gt_set_eq hy (by omega)]; exact hv
        · rw [gt_set_ne hy (by omega) (fun w => z w.symm)]; exact k5 k (by omega) c1
    refine ⟨fun w => ⟨fun e => ?_, fun e => ⟨fun d => ?_, fun d => ?_⟩⟩, fun w => ⟨by omega, ⟨by omega, by omega, k2, fun j j0 j1 => ?_⟩, by omega⟩⟩
    · exact ⟨t, by omega, by omega, w, by omega, by omega, step _ w (by rw [e, wayCost_a]), by omega⟩
    · exact ⟨t, by omega, by omega, w, by omega, by omega, step _ w (by rw [d, wayCost_b]), by omega⟩
    · have eo := k3 (i + 1) (by omega) (by omega)
      obtain ⟨p1, p2⟩ := h3 (i + 1) (by omega) (by omega)
      have q1 := p2 (y + 1) (by omega) (by omega)
      have q2 := p2 y (by omega) (by omega)
      have q3 := k5 (y + 1) (by omega) (by omega)
      have b1 := wayCost_bd (a := a) (b := b) (show 0 ≤ i + 1 by omega) (show i + 1 ≤ a.length by omega) (show 0 ≤ y by omega) (by omega)
      have b2 := wayCost_bd (a := a) (b := b) (show 0 ≤ i by omega) (show i ≤ a.length by omega) (show 0 ≤ y + 1 by omega) (by omega)
      rw [eo]
      refine ⟨t, by omega, w, by omega, fun e' => ?_, fun e' => ?_⟩
      · have ls := wayCost_same t (by omega) w (by omega) e'
        exact ⟨by omega, by omega, by omega, by omega, by omega, by omega, by omega, by omega, by omega, by omega, by omega, step _ w (by rw [q1, ls]), by omega⟩
      · have ls := wayCost_diff t (by omega) w (by omega) e'
        rw [q2, q3]
        exact ⟨by omega, by omega, by omega, by omega, by omega, by omega, by omega, by omega, by omega, by omega, by omega, by omega, by omega, by omega, by omega, by omega, step _ w ls.symm, by omega⟩
    · by_cases z : j = i
      · subst z; exact ⟨k4, fun k c0 c1 => k5 k (by omega) c1⟩
      · rw [k3 j (by omega) j1]; exact h3 j (by omega) j1
  · have cst : ∀ j : Int, 0 ≤ j → j ≤ a.length → (gt out j).length = b.length + 1 ∧ ∀ k : Int, 0 ≤ k → k ≤ b.length → gt (gt out j) k = wayCost a b j k := fun j j0 j1 => h3 j (by omega) j1
    clear h3
    refine ⟨fun i k o => 0 ≤ i ∧ i ≤ a.length ∧ 0 ≤ k ∧ k ≤ b.length ∧ cntOk o (i + k) ∧ (wayKinds (a.drop i.toNat) (b.drop k.toNat)).foldl addStep o = stepsOf (wayKinds a b), fun i k _ => (a.length - i + (b.length - k)).toNat, ⟨by omega, by omega, by omega, by omega, ⟨by simp, fun j j0 j1 => by simp at j1; omega⟩, by simp [stepsOf]⟩, ?_⟩
    rintro i k o ⟨g0, g1, g2, g3, g4, g5⟩
    dsimp only
    have oc : ∀ j : Int, 0 ≤ j → j < o.length → 0 ≤ (gt o j).2 ∧ (gt o j).2 ≤ i + k := g4.2
    have ol : (o.length : Int) ≤ i + k := g4.1
    refine ⟨fun u => ⟨fun _ => g0, fun v => v.1, fun _ => g2, fun v => v.2, fun v => ?_, fun v => ?_⟩, fun u => ?_⟩
    · have hw := way_keep g0 v.1.1 g2 v.1.2 v.2
      rw [hw, List.foldl_cons] at g5
      have hc := cnt_add (k := 1) g4 (by omega)
      rw [show i + k + 1 = i + 1 + k by omega] at hc
      refine ⟨fun _ => by omega, fun _ => by omega, fun _ => by omega, fun w => ?_, fun w => ?_⟩
      · have := oc ((o.length : Int) - 1) (by omega) (by omega)
        rw [add_more w] at g5 hc
        exact ⟨by omega, by omega, by omega, by omega, by omega, by omega, by omega, by omega, ⟨by omega, by omega, by omega, by omega, by rw [show i + 1 + (k + 1) = i + 1 + k + 1 by omega]; exact ⟨by have := hc.1; omega, fun j j0 j1 => by have := hc.2 j j0 j1; omega⟩, g5⟩, by omega⟩
      · rw [add_new w] at g5 hc
        exact ⟨by omega, by omega, by omega, ⟨by omega, by omega, by omega, by omega, by rw [show i + 1 + (k + 1) = i + 1 + k + 1 by omega]; exact ⟨by have := hc.1; omega, fun j j0 j1 => by have := hc.2 j j0 j1; omega⟩, g5⟩, by omega⟩
    · have c1 : i < a.length → gt (gt out (i + 1)) k = wayCost a b (i + 1) k := fun w => (cst (i + 1) (by omega) (by omega)).2 k g2 g3
      have c2 : gt (gt out i) k = wayCost a b i k := (cst i g0 g1).2 k g2 g3
      have l1 : i < a.length → (gt out (i + 1)).length = b.length + 1 := fun w => (cst (i + 1) (by omega) (by omega)).1
      have l2 := (cst i g0 g1).1
      refine ⟨fun _ => by omega, fun _ => by omega, fun w => by omega, fun _ => g2, fun w => by rw [l1 w]; omega, fun w => by rw [c1 w]; have := wayCost_bd (a := a) (b := b) (show 0 ≤ i + 1 by omega) (by omega) g2 g3; omega, fun _ => g0, fun _ => by omega, fun _ => g2, fun _ => by rw [l2]; omega, fun w => ?_, fun w => ?_⟩
      · rw [c1 w.1, c2] at w
        have hw := way_drop g0 w.1 g2 g3 (fun c => v ⟨⟨w.1, c.1⟩, c.2⟩) ((cost_lcs g0 w.1).1 w.2)
        rw [hw, List.foldl_cons] at g5
        have hc := cnt_add (k := 2) g4 (by omega)
        rw [show i + k + 1 = i + 1 + k by omega] at hc
        refine ⟨fun _ => by omega, fun _ => by omega, fun _ => by omega, fun z => ?_, fun z => ?_⟩
        · have := oc ((o.length : Int) - 1) (by omega) (by omega)
          rw [add_more z] at g5 hc
          exact ⟨by omega, by omega, by omega, by omega, by omega, by omega, by omega, ⟨by omega, by omega, by omega, by omega, hc, g5⟩, by omega⟩
        · rw [add_new z] at g5 hc
          exact ⟨by omega, by omega, ⟨by omega, by omega, by omega, by omega, hc, g5⟩, by omega⟩
      · have hk : k < b.length := by
          rcases Int.lt_or_le k b.length with c | c
          · exact c
          · have hi : i < a.length := by omega
            refine absurd ⟨hi, ?_⟩ w
            rw [c1 hi, c2, cost_lcs g0 hi]
            exact lcs_end c
        have hw := way_take g0 g1 g2 hk (fun c => v ⟨⟨c.1, hk⟩, c.2⟩) fun c => w ⟨c.1, by rw [c1 c.1, c2, cost_lcs g0 c.1]; exact c.2⟩
        rw [hw, List.foldl_cons] at g5
        have hc := cnt_add (k := 3) g4 (by omega)
        rw [show i + k + 1 = i + (k + 1) by omega] at hc
        refine ⟨fun _ => by omega, fun _ => by omega, fun _ => by omega, fun z => ?_, fun z => ?_⟩
        · have := oc ((o.length : Int) - 1) (by omega) (by omega)
          rw [add_more z] at g5 hc
          exact ⟨by omega, by omega, by omega, by omega, by omega, by omega, by omega, ⟨by omega, by omega, by omega, by omega, hc, g5⟩, by omega⟩
        · rw [add_new z] at g5 hc
          exact ⟨by omega, by omega, ⟨by omega, by omega, by omega, by omega, hc, g5⟩, by omega⟩
    · rw [show a.drop i.toNat = [] from List.drop_of_length_le (by omega), show b.drop k.toNat = [] from List.drop_of_length_le (by omega)] at g5
      simpa [wayKinds] using g5
theorem merge_Merge_con : Con Try.prog f_merge_Merge merge_Merge_ct := H.merge_con diff_Way_con

theorem ref_LinesFault_hC : Cons Try.prog [] := trivial
theorem ref_LinesFault_con : Con Try.prog f_ref_LinesFault ref_LinesFault_ct := ref_LinesFault_vc ref_LinesFault_hC fun ls hls => by
  have hl : ls.length ≤ 1000 := hls
  simp only [inI_iff, true_and, and_true, ne_eq, Int.reduceEq, not_false_eq_true, Int.toNat_zero]
  refine ⟨fun x => 0 ≤ x ∧ x ≤ ls.length ∧ ∀ i : Int, 0 ≤ i → i < x → ¬ (80 < (gt ls i).length ∨ ∃ s ∈ gt ls i, 600 < s.length), fun x => (ls.length - x).toNat, ⟨by omega, by omega, fun j a b => by omega⟩, ?_⟩
  rintro x ⟨h0, h1, h2⟩
  dsimp only
  refine ⟨fun t => ⟨h0, t, fun u => (linesFault_bad h0 t (.inl (by omega))).symm, fun u => ⟨fun y => 0 ≤ y ∧ y ≤ (gt ls x).length ∧ ∀ k : Int, 0 ≤ k → k < y → ¬ 600 < (gt (gt ls x) k).length, fun y => ((gt ls x).length - y).toNat, ⟨by omega, by omega, fun j a b => by omega⟩, ?_⟩⟩, fun t => (linesFault_good fun i a b => h2 i a (by omega)).symm⟩
  rintro y ⟨g0, g1, g2⟩
  dsimp only
  refine ⟨fun v => ⟨g0, v, fun w => (linesFault_bad h0 t (.inr ⟨_, gt_mem g0 v, by omega⟩)).symm, fun w => ⟨by omega, ⟨by omega, by omega, fun k a b => ?_⟩, by omega⟩⟩, fun v => ⟨by omega, ⟨by omega, by omega, fun i a b => ?_⟩, by omega⟩⟩
  · by_cases e : k = y
    · subst e; omega
    · exact g2 k a (by omega)
  · by_cases e : i = x
    · subst e
      rintro (c | ⟨s, hs, c⟩)
      · omega
      · obtain ⟨k, p, q, rfl⟩ := mem_gt hs
        exact g2 k p (by omega) c
    · exact h2 i a (by omega)

theorem ref_common_hC : Cons Try.prog [] := trivial
theorem ref_common_con : Con Try.prog f_ref_common ref_common_ct := ref_common_vc ref_common_hC fun a b ⟨ha, hb⟩ => by
  have la : a.length ≤ 80 := ha
  have lb : b.length ≤ 80 := hb
  simp only [inI_iff, true_and, and_true, ne_eq, Int.reduceEq, not_false_eq_true, Int.toNat_zero, List.length_set]
  refine ⟨by omega, by omega, by omega, fun x row => 0 ≤ x ∧ x ≤ a.length ∧ row.length = b.length + 1 ∧ ∀ k : Int, 0 ≤ k → k ≤ b.length → gt row k = lcsP a b x k, fun x _ => (a.length - x).toNat, ⟨by omega, by omega, by simp <;> omega, fun k k0 k1 => ?_⟩, ?_⟩
  · rw [gt_rep k0 (by omega), lcsP_zero_l]; rfl
  rintro x row ⟨h0, h1, h2, h3⟩
  dsimp only
  refine ⟨fun t => ⟨h0, t, by omega, by omega, by omega, fun y nx => 0 ≤ y ∧ y ≤ b.length ∧ nx.length = b.length + 1 ∧ ∀ k : Int, 0 ≤ k → k ≤ y → gt nx k = lcsP a b (x + 1) k, fun y _ => (b.length - y).toNat, ⟨by omega, by omega, by simp <;> omega, fun k k0 k1 => ?_⟩, ?_⟩, fun t => ⟨by omega, by omega, ?_⟩⟩
  · rw [gt_rep k0 (by omega), show k = 0 by omega, lcsP_zero_r]; rfl
  · rintro y nx ⟨g0, g1, g2, g3⟩
    dsimp only
    refine ⟨fun u => ?_, fun u => ⟨by omega, ⟨by omega, by omega, g2, fun k k0 k1 => g3 k k0 (by omega)⟩, by omega⟩⟩
    have e1 := h3 (y + 1) (by omega) (by omega)
    have e2 := h3 y g0 (by omega)
    have e3 := g3 y g0 (by omega)
    have ls := lcsP_step h0 t g0 u
    have bd := lcs_len (a.take x.toNat).reverse (b.take y.toNat).reverse
    have bd1 : lcsP a b x y ≤ 80 := by
      unfold lcsP
      simp only [List.length_reverse, List.length_take] at bd
      omega
    rw [e1, e2, e3]
    refine ⟨g0, u, by omega, by omega, by omega, by omega, g0, by omega, by omega, by omega, fun c => ?_, fun c => ?_⟩
    · rw [if_pos c] at ls
      refine ⟨by omega, by omega, by omega, by omega, g0, by omega, by omega, by omega, by omega, by omega, ⟨by omega, by omega, by simp; omega, fun k k0 k1 => ?_⟩, by omega⟩
      by_cases z : k = y + 1
      · subst z
        rw [gt_set_eq k0 (by simp; omega), gt_set_eq k0 (by omega), ls]
        omega
      · rw [gt_set_ne (by omega) k0 (fun w => z w.symm), gt_set_ne (by omega) k0 (fun w => z w.symm)]
        exact g3 k k0 (by omega)
    · rw [if_neg c] at ls
      refine ⟨by omega, ⟨by omega, by omega, by simp; omega, fun k k0 k1 => ?_⟩, by omega⟩
      by_cases z : k = y + 1
      · subst z
        rw [gt_set_eq k0 (by omega), ls]
        omega
      · rw [gt_set_ne (by omega) k0 (fun w => z w.symm)]
        exact g3 k k0 (by omega)
  · rw [h3 b.length (by omega) (by omega), show x = a.length by omega, lcsP_end]

theorem ref_DiffSteps_hC : Cons Try.prog [(f_ref_LinesFault, ref_LinesFault_ct), (f_ref_common, ref_common_ct)] := ⟨ref_LinesFault_con, ref_common_con, trivial⟩
theorem ref_DiffSteps_con : Con Try.prog f_ref_DiffSteps ref_DiffSteps_ct := ref_DiffSteps_vc ref_DiffSteps_hC fun a b _ => by
  simp only [inI_iff, true_and, and_true, ne_eq, Int.reduceEq, not_false_eq_true, Int.toNat_zero, diffSteps]
  refine ⟨by simp [lsPre], fun c => by rw [if_pos c]; exact ⟨rfl, rfl⟩, fun c => ?_⟩
  have q : linesFault [a, b] = 0 := Classical.byContradiction c
  have la := linesFault_len q (a := a) (by simp)
  have lb := linesFault_len q (a := b) (by simp)
  rw [if_neg c]
  have et : ∀ l : Lines, List.take ((l.length : Int)).toNat l = l := fun l => List.take_of_length_le (by omega)
  have d0 : ∀ l : Lines, List.drop (Int.toNat 0) l = l := fun l => rfl
  have d1 : ∀ l : Lines, List.drop (0 + 1 : Int).toNat l = l.drop 1 := fun l => rfl
  simp only [et, Int.toNat_one]
  refine ⟨fun x y ks => x.length ≤ 80 ∧ y.length ≤ 80 ∧ ks.length + x.length + y.length ≤ 160 ∧ ks ++ wayKinds x y = wayKinds a b, fun x y _ => x.length + y.length, ⟨la, lb, by simp; omega, by simp⟩, ?_⟩
  rintro x y ks ⟨h0, h1, h2, h3⟩
  dsimp only
  refine ⟨fun t => ⟨fun _ => by omega, fun u => u.1, fun _ => by omega, fun u => u.2, fun u => ?_, fun u => ⟨fun _ => by omega, fun _ => by omega, fun _ => by omega, fun _ => ⟨by simp only [linesPre, List.length_drop]; omega, h1⟩, fun _ => ⟨h0, h1⟩, fun v => ?_, fun v => ?_⟩⟩, fun t => ?_⟩
  · have hw := way_keep (i := 0) (k := 0) (by omega) u.1.1 (by omega) u.1.2 u.2
    simp only [d0, d1] at hw
    rw [hw] at h3
    exact ⟨by omega, by omega, by omega, by omega, by omega, by omega, by omega, ⟨by simp only [List.length_drop]; omega, by simp only [List.length_drop]; omega, by simp only [List.length_append, List.length_drop, List.length_cons, List.length_nil]; omega, by simpa using h3⟩, by simp only [List.length_drop]; omega⟩
  · have hw := way_drop (i := 0) (k := 0) (by omega) v.1 (by omega) (by omega) (fun c => u ⟨⟨v.1, c.1⟩, c.2⟩) (by simp only [d0, d1]; omega)
    simp only [d0, d1] at hw
    rw [hw] at h3
    exact ⟨by omega, by omega, by omega, by omega, ⟨by simp only [List.length_drop]; omega, by omega, by simp only [List.length_append, List.length_drop, List.length_cons, List.length_nil]; omega, by simpa using h3⟩, by simp only [List.length_drop]; omega⟩
  · have hk : 0 < (y.length : Int) := by
      rcases Int.lt_or_le 0 y.length with c | c
      · exact c
      · have : y = [] := List.length_eq_zero_iff.1 (by omega)
        subst this
        exact absurd ⟨by omega, by rw [lcs_nil, lcs_nil]⟩ v
    have hw := way_take (i := 0) (k := 0) (by omega) (by omega) (by omega) hk (fun c => u ⟨⟨c.1, hk⟩, c.2⟩) (fun c => v ⟨c.1, by have := c.2; simp only [d0, d1] at this; omega⟩)
    simp only [d0, d1] at hw
    rw [hw] at h3
    exact ⟨by omega, by omega, by omega, by omega, ⟨by omega, by simp only [List.length_drop]; omega, by simp only [List.length_append, List.length_drop, List.length_cons, List.length_nil]; omega, by simpa using h3⟩, by simp only [List.length_drop]; omega⟩
  · have e1 : x = [] := List.length_eq_zero_iff.1 (by omega)
    have e2 : y = [] := List.length_eq_zero_iff.1 (by omega)
    subst e1; subst e2
    have hk : ks = wayKinds a b := by simpa [wayKinds] using h3
    have kl : ks.length ≤ 160 := by simp at h2; omega
    refine ⟨fun z out => 0 ≤ z ∧ z ≤ ks.length ∧ out = stepsOf (ks.take z.toNat) ∧ cntOk out z ∧ (0 < z → 0 < (out.length : Int) ∧ (gt out ((out.length : Int) - 1)).1 = gt ks (z - 1)) ∧ (z = 0 → out = []), fun z _ => (ks.length - z).toNat, ⟨by omega, by omega, by simp [stepsOf], ⟨by simp, fun j j0 j1 => by simp at j1; omega⟩, fun c => by omega, fun _ => rfl⟩, ?_⟩
    rintro z out ⟨g0, g1, g2, g3, g4, g5⟩
    dsimp only
    have oc := g3.2
    have ol := g3.1
    refine ⟨fun u => ⟨g0, u, fun _ => by omega, fun _ => by omega, fun _ => by omega, fun v => ?_, fun v => ?_⟩, fun u => ⟨?_, by trivial⟩⟩
    · have w := g4 v.1
      rw [v.2] at w
      have := oc ((out.length : Int) - 1) (by omega) (by omega)
      have ea := add_more w
      rw [← ea]
      refine ⟨by omega, by omega, by omega, by omega, by omega, by omega, by omega, ⟨by omega, by omega, by rw [steps_succ g0 u, ← g2], cnt_add g3 g0, fun _ => ?_, fun c => by omega⟩, by omega⟩
      rw [show z + 1 - 1 = z by omega]; exact add_last _ _
    · have w : ¬ (0 < (out.length : Int) ∧ (gt out ((out.length : Int) - 1)).1 = gt ks z) := fun c => by
        by_cases e : z = 0
        · have := g5 e; rw [this] at c; simp at c
        · exact v ⟨by omega, by rw [← (g4 (by omega)).2]; exact c.2⟩
      have ea := add_new w
      rw [← ea]
      refine ⟨by omega, by omega, ⟨by omega, by omega, by rw [steps_succ g0 u, ← g2], cnt_add g3 g0, fun _ => ?_, fun c => by omega⟩, by omega⟩
      rw [show z + 1 - 1 = z by omega]; exact add_last _ _
    · rw [g2, List.take_of_length_le (by omega), hk]
theorem ref_touched_con : Con Try.prog f_ref_touched ref_touched_ct := R.touched_con ref_DiffSteps_con

theorem ref_Merged_hC : Cons Try.prog [(f_ref_LinesFault, ref_LinesFault_ct), (f_ref_touched, ref_touched_ct)] := ⟨ref_LinesFault_con, ref_touched_con, trivial⟩
theorem ref_Merged_con : Con Try.prog f_ref_Merged ref_Merged_ct := ref_Merged_vc ref_Merged_hC fun base a b _ => by
  simp only [inI_iff, true_and, and_true, ne_eq, Int.reduceEq, not_false_eq_true, Int.toNat_zero]
  refine ⟨by simp [lsPre], fun c => ?_, fun c => ?_⟩
  · unfold merged; rw [if_pos c]; exact ⟨rfl, rfl, rfl⟩
  have hf : linesFault [base, a, b] = 0 := Classical.byContradiction c
  have hno : ¬ ∃ l ∈ [base, a, b], 80 < l.length ∨ ∃ s ∈ l, 600 < s.length := fun q => by have := (linesFault_iff [base, a, b]).2.2 q; omega
  have fA : linesFault [base, a] = 0 := (linesFault_iff _).1.resolve_right fun q => by
    obtain ⟨l, hl, q⟩ := (linesFault_iff _).2.1 q
    exact hno ⟨l, by simp at hl ⊢; rcases hl with rfl | rfl <;> simp, q⟩
  have fB : linesFault [base, b] = 0 := (linesFault_iff _).1.resolve_right fun q => by
    obtain ⟨l, hl, q⟩ := (linesFault_iff _).2.1 q
    exact hno ⟨l, by simp at hl ⊢; rcases hl with rfl | rfl <;> simp, q⟩
  obtain ⟨hn, ha⟩ := fault_two fA
  have hb := (fault_two fB).2
  obtain ⟨A1, A2, A3⟩ := touchL_len (base := base) (other := a)
  obtain ⟨B1, B2, B3⟩ := touchL_len (base := base) (other := b)
  have gA := fun i h0 h1 => touchL_gap (base := base) (other := a) (i := i) h0 h1
  have gB := fun i h0 h1 => touchL_gap (base := base) (other := b) (i := i) h0 h1
  have oA := fun i h0 h1 => touchL_gone (base := base) (other := a) (i := i) h0 h1
  have oB := fun i h0 h1 => touchL_gone (base := base) (other := b) (i := i) h0 h1
  have uA := fun i h0 h1 => touchL_put (base := base) (other := a) (i := i) h0 h1
  have uB := fun i h0 h1 => touchL_put (base := base) (other := b) (i := i) h0 h1
  have pA : ∀ i, ((touchOf base a).put i).length ≤ 80 := fun i => by have := touch_few base a i; omega
  have pB : ∀ i, ((touchOf base b).put i).length ≤ 80 := fun i => by have := touch_few base b i; omega
  rw [merged_rule hf]
  generalize touchL base a = LA at *
  generalize touchL base b = LB at *
  generalize touchOf base a = tA at *
  generalize touchOf base b = tB at *
  refine ⟨fA, fB, fun cl i m out => m = base ∧ RI base tA tB i cl out, fun _ i _ _ => (base.length + 1 - i).toNat, ⟨rfl, RI.start⟩, ?_⟩
  rintro cl i m out ⟨rfl, hI⟩
  dsimp only
  have i0 := hI.1
  have i1 := hI.2.1
  have hg : ∀ j : Int, 0 ≤ j → j < m.length → m.getD j.toNat [] = gt m j := fun j j0 j1 => rfl
  refine ⟨fun hi => ?_, fun hi => ?_⟩
  rotate_left
  · obtain ⟨e1, e2⟩ := hI.done hi
    exact ⟨e1, e2, rfl⟩
  rw [gA i i0 hi, gB i i0 hi]
  refine ⟨i0, by omega, fun _ => i0, fun _ => by omega, fun hc => ?_, fun hc => ?_⟩
  · obtain ⟨c1, c2⟩ := hc
    have c1 : tA.gap i.toNat = false := by simpa using c1
    have c2 : tB.gap i.toNat = false := by simpa using c2
    have st := hI.free hi c1 c2
    have hol := hI.2.2.2.2.1
    refine ⟨fun hl => ?_, fun hl => ?_⟩
    · rw [if_pos hl, hg i i0 hl] at st
      exact ⟨i0, hl, by omega, by omega, ⟨rfl, st⟩, by omega⟩
    · rw [if_neg hl, List.append_nil] at st
      exact ⟨by omega, ⟨rfl, st⟩, by omega⟩
  have hgap : ¬ (tA.gap i.toNat = false ∧ tB.gap i.toNat = false) := fun ⟨q1, q2⟩ => hc ⟨by simp [q1], by simp [q2]⟩
  refine ⟨fun hi' => i ≤ hi' ∧ hi' ≤ m.length ∧ ∃ K : Nat, m.length < hi' + K ∧ runTo m.length (fun j => tA.gone j || tB.gone j) (m.length + 1) i.toNat = runTo m.length (fun j => tA.gone j || tB.gone j) K hi'.toNat, fun hi' => (m.length - hi').toNat, ⟨Int.le_refl _, hi, m.length + 1, by omega, rfl⟩, ?_⟩
  rintro h ⟨h0, h1, K, h2, h3⟩
  dsimp only
  refine ⟨fun q => by omega, fun q => by omega, fun q => by omega, fun q => by omega, fun q => ?_, fun q => ?_⟩
  · obtain ⟨q1, q2⟩ := q
    rw [oA h (by omega) q1, oB h (by omega) q1] at q2
    obtain ⟨K, rfl⟩ : ∃ K0, K = K0 + 1 := ⟨K - 1, by omega⟩
    refine ⟨by omega, ⟨by omega, by omega, K, by omega, ?_⟩, by omega⟩
    rw [h3, run_go ⟨by omega, by simpa using q2⟩, show (h + 1).toNat = h.toNat + 1 by omega]
  have hrun : runTo m.length (fun j => tA.gone j || tB.gone j) (m.length + 1) i.toNat = h.toNat := by
    rw [h3]
    refine run_stop (by omega) fun ⟨q1, q2⟩ => q ⟨by omega, ?_⟩
    rw [oA h (by omega) (by omega), oB h (by omega) (by omega)]
    simpa using q2
  clear h2 h3 K q
  refine ⟨fun ua ub k => i ≤ k ∧ k ≤ h + 1 ∧ (ua = true ↔ ∃ z : Nat, i.toNat ≤ z ∧ (z : Int) < k ∧ tA.gap z = true) ∧ (ub = true ↔ ∃ z : Nat, i.toNat ≤ z ∧ (z : Int) < k ∧ tB.gap z = true), fun _ _ k => (h + 1 - k).toNat, ⟨Int.le_refl _, by omega, ⟨fun q => (by cases q), fun ⟨z, z1, z2, z3⟩ => (by omega)⟩, ⟨fun q => (by cases q), fun ⟨z, z1, z2, z3⟩ => (by omega)⟩⟩, ?_⟩
  rintro ua ub k ⟨k0, k1, k2, k3⟩
  dsimp only
  refine ⟨fun q => ⟨fun _ => by omega, fun _ => by omega, fun _ => by omega, fun _ => by omega, by omega, ⟨by omega, by omega, ?_, ?_⟩, by omega⟩, fun q => ?_⟩
  · have := uses_step i0 k0 k2 (gA k (by omega) (by omega))
    simpa only [bo_iff] using this
  · have := uses_step i0 k0 k3 (gB k (by omega) (by omega))
    simpa only [bo_iff] using this
  rw [uses_done i0 h0 (by omega)] at k2 k3
  clear k0 k1 q k
  refine ⟨fun j o => MI m tA i h j o, fun j _ => (h + 1 - j).toNat, MI.start h0, ?_⟩
  rintro j x hx
  dsimp only
  have j0 := hx.1
  have j1 := hx.2.1
  have xl := hx.len i0 h0 (by omega) pA
  refine ⟨fun q => ?_, fun q => ?_⟩
  · have pj := pA j.toNat
    rw [uA j (by omega) (by omega)]
    refine ⟨by omega, by omega, by omega, fun _ => by omega, fun _ => by omega, fun c => ?_, fun c => ?_⟩
    · obtain ⟨c1, c2⟩ := c
      rw [oA j (by omega) (by omega)] at c2
      have := hx.keep i0 c1 (by simpa using c2)
      rw [hg j (by omega) (by omega)] at this
      exact ⟨by omega, by omega, by simp only [List.length_append]; omega, by omega, this, by omega⟩
    · have := hx.skip i0 q fun z => Classical.byContradiction fun y => c ⟨z, by rw [oA j (by omega) (by omega)]; exact y⟩
      exact ⟨by omega, this, by omega⟩
  have ex := hx.done q
  clear hx j0 j1 q j
  refine ⟨fun j o => MI m tB i h j o, fun j _ => (h + 1 - j).toNat, MI.start h0, ?_⟩
  rintro j y hy
  dsimp only
  have j0 := hy.1
  have j1 := hy.2.1
  have yl := hy.len i0 h0 (by omega) pB
  refine ⟨fun q => ?_, fun q => ?_⟩
  · have pj := pB j.toNat
    rw [uB j (by omega) (by omega)]
    refine ⟨by omega, by omega, by omega, fun _ => by omega, fun _ => by omega, fun c => ?_, fun c => ?_⟩
    · obtain ⟨c1, c2⟩ := c
      rw [oB j (by omega) (by omega)] at c2
      have := hy.keep i0 c1 (by simpa using c2)
      rw [hg j (by omega) (by omega)] at this
      exact ⟨by omega, by omega, by simp only [List.length_append]; omega, by omega, this, by omega⟩
    · have := hy.skip i0 q fun z => Classical.byContradiction fun y => c ⟨z, by rw [oB j (by omega) (by omega)]; exact y⟩
      exact ⟨by omega, this, by omega⟩
  have ey := hy.done q
  clear hy j0 j1 q j
  refine ⟨fun same k => 0 ≤ k ∧ k ≤ x.length ∧ (same = true → x.length = y.length ∧ ∀ j : Int, 0 ≤ j → j < k → gt x j = gt y j) ∧ (same = false → x ≠ y), fun _ k => (x.length - k).toNat, ⟨Int.le_refl _, by omega, ?_, ?_⟩, ?_⟩
  · intro c
    simp only [bo_iff] at c
    exact ⟨by omega, fun j j0 j1 => by omega⟩
  · intro c e
    rw [e] at c
    simp [bo] at c
  rintro same k ⟨k0, k1, k4, k5⟩
  dsimp only
  refine ⟨fun q => ?_, fun q => ?_⟩
  · obtain ⟨q1, q2⟩ := q
    obtain ⟨z1, z2⟩ := k4 q1
    refine ⟨k0, q2, k0, by omega, by omega, ⟨by omega, by omega, fun c => ⟨z1, fun j j0 j1 => ?_⟩, fun c e => ?_⟩, by omega⟩
    · simp only [bo_iff] at c
      by_cases e : j = k
      · rw [e]; exact c
      · exact z2 j j0 (by omega)
    · rw [e] at c
      simp [bo] at c
  have hsame : same = true ↔ x = y := by
    constructor
    · intro c
      obtain ⟨z1, z2⟩ := k4 c
      refine ext_gt (by omega) fun j j0 j1 => z2 j j0 ?_
      have : ¬ k < x.length := fun w => q ⟨c, w⟩
      omega
    · intro e
      cases hs : same with
      | true => rfl
      | false => exact absurd e (k5 hs)
  clear k4 k5 k0 k1 q
  have hol := hI.2.2.2.2.1
  have hcl := hI.2.2.2.1
  have hcl0 := hI.2.2.1
  have fin : ∀ (P : Lines) (C : Int), P = partR m tA tB i.toNat h.toNat → C = (partK m tA tB i.toNat h.toNat : Int) → RI m tA tB (h + 1) (cl + C) (out ++ P ++ (if h < m.length then [m.getD h.toNat []] else [])) := fun P C e1 e2 => hI.part hn pA pB h0 h1 hgap hrun e1 e2
  have hcond : (¬ uses tB i.toNat h.toNat ∨ mk1 m tA i.toNat h.toNat = mk1 m tB i.toNat h.toNat) ↔ (¬ ub = true ∨ same = true) := by rw [← ex, ← ey, hsame, k3]
  have hp1 : (¬ ub = true ∨ same = true) → x = partR m tA tB i.toNat h.toNat ∧ (0 : Int) = (partK m tA tB i.toNat h.toNat : Int) := fun c => by
    unfold partR partK; rw [if_pos (hcond.2 c), if_pos (hcond.2 c)]; exact ⟨ex, rfl⟩
  have hp2 : ¬ (¬ ub = true ∨ same = true) → ¬ ua = true → y = partR m tA tB i.toNat h.toNat ∧ (0 : Int) = (partK m tA tB i.toNat h.toNat : Int) := fun c d => by
    rw [k2] at d
    unfold partR partK; rw [if_neg (fun q => c (hcond.1 q)), if_neg (fun q => c (hcond.1 q)), if_pos d, if_pos d]; exact ⟨ey, rfl⟩
  have hp3 : ¬ (¬ ub = true ∨ same = true) → ¬ ¬ ua = true → clashed x y = partR m tA tB i.toNat h.toNat ∧ (1 : Int) = (partK m tA tB i.toNat h.toNat : Int) := fun c d => by
    rw [k2] at d
    unfold partR partK; rw [if_neg (fun q => c (hcond.1 q)), if_neg (fun q => c (hcond.1 q)), if_neg d, if_neg d, ← ex, ← ey]; exact ⟨rfl, rfl⟩
  clear ex ey hsame k2 k3
  have step : ∀ (P : Lines) (C : Int), P = partR m tA tB i.toNat h.toNat → C = (partK m tA tB i.toNat h.toNat : Int) → P.length ≤ 14003 → (h < m.length → 0 ≤ h ∧ h < m.length ∧ ((out ++ P).length + 1) * 16 ≤ 140737488355328 ∧ inI64 (h + 1) ∧ RI m tA tB (h + 1) (cl + C) (out ++ P ++ [gt m h]) ∧ (m.length + 1 - (h + 1) : Int).toNat < (m.length + 1 - i : Int).toNat) ∧ (¬ h < m.length → inI64 (h + 1) ∧ RI m tA tB (h + 1) (cl + C) (out ++ P) ∧ (m.length + 1 - (h + 1) : Int).toNat < (m.length + 1 - i : Int).toNat) := by
    intro P C e1 e2 e3
    have f := fin P C e1 e2
    refine ⟨fun c => ?_, fun c => ?_⟩
    · rw [if_pos c, hg h (by omega) c] at f
      exact ⟨by omega, c, by rw [List.length_append]; omega, by unfold inI64; omega, f, by omega⟩
    · rw [if_neg c, List.append_nil] at f
      exact ⟨by unfold inI64; omega, f, by omega⟩
  clear fin
  refine ⟨fun c => ?_, fun c => ⟨fun d => ?_, fun d => ?_⟩⟩
  · have s := step x 0 (hp1 c).1 (hp1 c).2 (by omega)
    rw [Int.add_zero] at s
    refine ⟨by omega, fun c' => ?_, fun c' => ?_⟩
    · obtain ⟨s1, s2, s3, s4, s5, s6⟩ := s.1 c'
      exact ⟨s1, s2, s3, s4, ⟨rfl, s5⟩, s6⟩
    · obtain ⟨s4, s5, s6⟩ := s.2 c'
      exact ⟨s4, ⟨rfl, s5⟩, s6⟩
  · have s := step y 0 (hp2 c d).1 (hp2 c d).2 (by omega)
    rw [Int.add_zero] at s
    refine ⟨by omega, fun c' => ?_, fun c' => ?_⟩
    · obtain ⟨s1, s2, s3, s4, s5, s6⟩ := s.1 c'
      exact ⟨s1, s2, s3, s4, ⟨rfl, s5⟩, s6⟩
    · obtain ⟨s4, s5, s6⟩ := s.2 c'
      exact ⟨s4, ⟨rfl, s5⟩, s6⟩
  · have s := step (clashed x y) 1 (hp3 c d).1 (hp3 c d).2 (by simp only [clashed, List.length_append, List.length_singleton]; omega)
    have e : out ++ [[60, 60, 60, 60, 60, 60, 60]] ++ x ++ [[61, 61, 61, 61, 61, 61, 61]] ++ y ++ [[62, 62, 62, 62, 62, 62, 62]] = out ++ clashed x y := by
      simp only [clashed, List.append_assoc]; rfl
    refine ⟨by omega, by omega, by simp only [List.length_append, List.length_singleton]; omega, by simp only [List.length_append, List.length_singleton]; omega, by simp only [List.length_append, List.length_singleton]; omega, by simp only [List.length_append, List.length_singleton]; omega, fun c' => ?_, fun c' => ?_⟩
    · obtain ⟨s1, s2, s3, s4, s5, s6⟩ := s.1 c'
      rw [e]
      exact ⟨s1, s2, s3, s4, ⟨rfl, s5⟩, s6⟩
    · obtain ⟨s4, s5, s6⟩ := s.2 c'
      rw [e]
      exact ⟨s4, ⟨rfl, s5⟩, s6⟩

theorem law_sameTexts_hC : Cons Try.prog [] := trivial
theorem law_sameTexts_con : Con Try.prog f_law_sameTexts law_sameTexts_ct := law_sameTexts_vc law_sameTexts_hC fun a b h => by
  simp only [inI_iff, true_and, and_true, ne_eq, Int.reduceEq, not_false_eq_true, Int.toNat_zero, false_bo, true_bo, fitL] at *
  refine ⟨fun q e => q (by rw [e]), fun q => ⟨fun i => 0 ≤ i ∧ i ≤ a.length ∧ ∀ j : Int, 0 ≤ j → j < i → gt a j = gt b j, fun i => (a.length - i).toNat, ⟨by omega, by omega, fun j h1 h2 => by omega⟩, fun i ⟨h0, h1, h2⟩ => ?_⟩⟩
  dsimp only
  refine ⟨fun r => ⟨h0, r, h0, by omega, fun t e => t (by rw [e]), fun t => ⟨by omega, ⟨by omega, by omega, fun j j0 j1 => ?_⟩, by omega⟩⟩, fun r => ?_⟩
  · by_cases e : j = i
    · rw [e]; exact Classical.byContradiction t
    · exact h2 j j0 (by omega)
  · exact ext_gt (by omega) fun j j0 j1 => h2 j j0 (by omega)

theorem law_MergeMerges_hC : Cons Try.prog [(f_merge_Merge, merge_Merge_ct), (f_ref_Merged, ref_Merged_ct), (f_law_sameTexts, law_sameTexts_ct)] := ⟨merge_Merge_con, ref_Merged_con, law_sameTexts_con, trivial⟩
theorem law_MergeMerges_con : Con Try.prog f_law_MergeMerges law_MergeMerges_ct := law_MergeMerges_vc law_MergeMerges_hC fun base a b h => by
  have := merged_len base a b
  exact ⟨by simp [lsPre], by simp [lsPre], ⟨by omega, by omega⟩, by simp⟩

end Go.Proofs.Ytdbgppfoenoijaa
