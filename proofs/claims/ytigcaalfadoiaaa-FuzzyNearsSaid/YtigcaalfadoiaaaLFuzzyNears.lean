/- The contracts of the functions that the law reaches, and that of the law. Conditions: none. -/
import Derived.Test.YtigcaalfadoiaaaWFuzzyNears
set_option linter.unusedVariables false
set_option linter.unusedSimpArgs false
set_option maxRecDepth 100000
namespace Go.Proofs.Ytigcaalfadoiaaa
open Go.Vc Go.Fu

theorem fuzzy_long_hC : Cons Try.prog [] := trivial
theorem fuzzy_long_con : Con Try.prog f_fuzzy_long fuzzy_long_ct := fuzzy_long_vc fuzzy_long_hC fun w hw => by
  simp only [inI_iff, true_and, and_true, ne_eq, Int.reduceEq, not_false_eq_true, Int.toNat_zero, longOf, bo_eq_bo, wordsPre] at *
  refine ⟨fun x => 0 ≤ x ∧ x ≤ w.length ∧ ∀ j : Int, 0 ≤ j → j < x → ¬ 20 < (gt w j).length, fun x => (w.length - x).toNat, ⟨by omega, by omega, fun j a b => by omega⟩, ?_⟩
  rintro x ⟨h0, h1, h2⟩
  dsimp only
  refine ⟨fun t => ⟨h0, t, fun u => ⟨fun _ => ⟨_, gt_mem h0 t, by omega⟩, fun _ => h0⟩, fun u => ⟨by omega, ⟨by omega, by omega, fun j a b => ?_⟩, by omega⟩⟩, fun t => ⟨fun c => by omega, ?_⟩⟩
  · by_cases e : j = x
    · subst e; omega
    · exact h2 j a (by omega)
  · rintro ⟨s, hs, c⟩
    obtain ⟨j, a, b, rfl⟩ := mem_gt hs
    exact absurd c (h2 j a (by omega))

theorem fuzzy_band_hC : Cons Try.prog [] := trivial
theorem fuzzy_band_con : Con Try.prog f_fuzzy_band fuzzy_band_ct := fuzzy_band_vc fuzzy_band_hC fun a b most ⟨ha, hb, hm⟩ => by
  have la : a.length ≤ 20 := ha
  have lb : b.length ≤ 20 := hb
  obtain ⟨m0, m1⟩ := hm
  simp only [inI_iff, true_and, and_true, ne_eq, Int.reduceEq, not_false_eq_true, Int.toNat_zero, List.length_replicate, iteP_if, nearOf, false_bo, bo_eq_bo] at *
  have fb := levZ_bd a b (show 0 ≤ (a.length : Int) by omega) (show 0 ≤ (b.length : Int) by omega)
  refine ⟨by omega, by omega, fun c => by unfold farOf; omega, fun c => ⟨by omega, by omega, by omega, by omega, fun x row => 0 ≤ x ∧ x ≤ b.length + 1 ∧ row.length = b.length + 1 ∧ ∀ k : Int, 0 ≤ k → k < x → gt row k = min k (most + 1), fun x _ => (b.length + 1 - x).toNat, ⟨by omega, by omega, by simp <;> omega, fun k a b => by omega⟩, ?_⟩⟩
  rintro x row ⟨h0, h1, h2, h3⟩
  dsimp only
  refine ⟨fun t => ⟨h0, by omega, by omega, ⟨by omega, by omega, by simp; omega, fun k k0 k1 => ?_⟩, by omega⟩, fun t => ?_⟩
  · by_cases e : k = x
    · subst e; exact gt_set_eq k0 (by omega)
    · rw [gt_set_ne h0 k0 (fun z => e z.symm)]; exact h3 k k0 (by omega)
  refine ⟨fun x row => 0 ≤ x ∧ x ≤ a.length ∧ row.length = b.length + 1 ∧ ∀ k : Int, 0 ≤ k → k ≤ b.length → gt row k = min (levZ a b x k) (most + 1), fun x _ => (a.length - x).toNat, ⟨by omega, by omega, by omega, fun k k0 k1 => by rw [levZ_zero k0]; exact h3 k k0 (by omega)⟩, ?_⟩
  rintro i row ⟨g0, g1, g2, g3⟩
  dsimp only
  refine ⟨fun t => ⟨by omega, by omega, by omega, fun x r => 0 ≤ x ∧ x ≤ b.length + 1 ∧ r.length = b.length + 1 ∧ ∀ k : Int, 0 ≤ k → k < x → gt r k = most + 1, fun x _ => (b.length + 1 - x).toNat, ⟨by omega, by omega, by simp <;> omega, fun k a b => by omega⟩, ?_⟩, fun t => ⟨by omega, by omega, ?_⟩⟩
  · rintro x r ⟨k0, k1, k2, k3⟩
    dsimp only
    refine ⟨fun u => ⟨k0, by omega, by omega, ⟨by omega, by omega, by simp; omega, fun k c0 c1 => ?_⟩, by omega⟩, fun u => ?_⟩
    · by_cases e : k = x
      · subst e; exact gt_set_eq c0 (by omega)
      · rw [gt_set_ne k0 c0 (fun z => e z.symm)]; exact k3 k c0 (by omega)
    refine ⟨by omega, by omega, fun k r => max 0 (i + 1 - most) ≤ k ∧ k ≤ b.length + 1 ∧ r.length = b.length + 1 ∧ (∀ j : Int, 0 ≤ j → j < k → gt r j = min (levZ a b (i + 1) j) (most + 1)) ∧ (∀ j : Int, k ≤ j → j ≤ b.length → gt r j = most + 1), fun k _ => (b.length + 1 - k).toNat, ⟨by omega, by omega, k2, fun j j0 j1 => ?_, fun j j0 j1 => k3 j (by omega) (by omega)⟩, ?_⟩
    · have := levZ_bd a b (show 0 ≤ i + 1 by omega) j0
      rw [k3 j j0 (by omega)]; omega
    rintro k r ⟨p0, p1, p2, p3, p4⟩
    dsimp only
    refine ⟨by omega, by omega, fun u => ⟨fun e => ?_, fun e => ?_⟩, fun u => ⟨by omega, ⟨by omega, by omega, p2, fun j j0 j1 => ?_⟩, by omega⟩⟩
    · subst e
      refine ⟨by omega, by omega, by omega, by omega, ⟨by omega, by omega, by simp; omega, fun j j0 j1 => ?_, fun j j0 j1 => ?_⟩, by omega⟩
      · rw [show j = 0 by omega, levZ_left (by omega)]
        exact gt_set_eq (i := 0) (by omega) (by omega)
      · have := gt_set_ne (l := r) (i := 0) (j := j) (a := min (i + 1) (most + 1)) (by omega) (by omega) (by omega)
        rw [Int.toNat_zero] at this
        rw [this]; exact p4 j (by omega) j1
    · have e1 := g3 (k - 1) (by omega) (by omega)
      have e2 := g3 k (by omega) (by omega)
      have e3 := p3 (k - 1) (by omega) (by omega)
      have b1 := levZ_bd a b g0 (show 0 ≤ k - 1 by omega)
      have b2 := levZ_bd a b g0 (show 0 ≤ k by omega)
      have b3 := levZ_bd a b (show 0 ≤ i + 1 by omega) (show 0 ≤ k - 1 by omega)
      have ls := levZ_step (a := a) (b := b) g0 (show 0 ≤ k - 1 by omega)
      rw [show k - 1 + 1 = k by omega] at ls
      rw [e1, e2, e3]
      have u1 : k ≤ b.length := by omega
      have kp : 0 < k := by omega
      have val : min (min (min (if gt a i ≠ gt b (k - 1) then min (levZ a b i (k - 1)) (most + 1) + 1 else min (levZ a b i (k - 1)) (most + 1)) (min (levZ a b (i + 1) (k - 1)) (most + 1) + 1)) (min (levZ a b i k) (most + 1) + 1)) (most + 1) = min (levZ a b (i + 1) k) (most + 1) := by
        clear p0 u p3 p4 g3 h3 k3 e1 e2 e3 fb c
        rw [ls]
        by_cases w : gt a i = gt b (k - 1)
        · rw [if_neg (by simp [w]), if_pos w]; omega
        · rw [if_pos w, if_neg w]; omega
      have r1 : 0 ≤ min (levZ a b i (k - 1)) (most + 1) ∧ min (levZ a b i (k - 1)) (most + 1) ≤ 21 := by clear p0 u ls val fb c; omega
      have r2 : 0 ≤ min (levZ a b i k) (most + 1) ∧ min (levZ a b i k) (most + 1) ≤ 21 := by clear p0 u ls val fb c; omega
      have r3 : 0 ≤ min (levZ a b (i + 1) (k - 1)) (most + 1) ∧ min (levZ a b (i + 1) (k - 1)) (most + 1) ≤ 21 := by clear p0 u ls val fb c; omega
      have p0' : max 0 (i + 1 - most) ≤ k + 1 := by clear u ls val fb c; omega
      clear ls u p0 fb c e1 e2 e3 b1 b2 b3
      rw [val]
      generalize min (levZ a b i (k - 1)) (most + 1) = v1 at *
      generalize min (levZ a b i k) (most + 1) = v2 at *
      generalize min (levZ a b (i + 1) (k - 1)) (most + 1) = v3 at *
      have hb' : k < r.length := by omega
      have hr' : row.length = b.length + 1 := g2
      refine ⟨by omega, by omega, by omega, g0, t, by omega, by omega, by omega, fun _ => by omega, by omega, by omega, by omega, by omega, by omega, by omega, by omega, by omega, by omega, by omega, ⟨p0', by omega, by simp; omega, fun j j0 j1 => ?_, fun j j0 j1 => ?_⟩, by omega⟩
      · by_cases z : j = k
        · subst z
          rw [gt_set_eq j0 (by omega)]
        · rw [gt_set_ne (by omega) j0 (fun w => z w.symm)]; exact p3 j j0 (by omega)
      · rw [gt_set_ne (by omega) (by omega) (by omega)]; exact p4 j (by omega) j1
    · by_cases z : j < k
      · exact p3 j j0 z
      · have := levZ_bd a b (show 0 ≤ i + 1 by omega) j0
        rw [p4 j (by omega) j1]; omega
  · have e := g3 b.length (by omega) (by omega)
    rw [e, show i = a.length by omega]
    unfold farOf
    omega

theorem fuzzy_Near_hC : Cons Try.prog [(f_fuzzy_long, fuzzy_long_ct), (f_fuzzy_band, fuzzy_band_ct)] := ⟨fuzzy_long_con, fuzzy_band_con, trivial⟩
theorem fuzzy_Near_con : Con Try.prog f_fuzzy_Near fuzzy_Near_ct := fuzzy_Near_vc fuzzy_Near_hC fun a b most _ => by
  simp only [inI_iff, true_and, and_true, ne_eq, Int.reduceEq, not_false_eq_true, Int.toNat_zero, longOf, bo_true, fuzzyNear]
  refine ⟨by simp [wordsPre], fun c => ?_, fun c => ?_⟩
  · rw [if_pos]
    · exact ⟨rfl, rfl⟩
    · obtain ⟨w, hw, c⟩ := c
      simp only [List.mem_cons, List.not_mem_nil, or_false] at hw
      rcases hw with rfl | rfl
      · exact .inl c
      · exact .inr c
  · have h1 : ¬ 20 < a.length := fun d => c ⟨a, by simp, d⟩
    have h2 : ¬ 20 < b.length := fun d => c ⟨b, by simp, d⟩
    rw [if_neg (by omega)]
    refine ⟨fun d => by rw [if_pos d]; exact ⟨rfl, rfl⟩, fun d => by rw [if_neg d]; exact ⟨⟨by simp only [wordPre]; omega, by simp only [wordPre]; omega, by omega, by omega⟩, rfl, rfl⟩⟩

theorem ref_farOf_hC : Cons Try.prog [] := trivial
theorem ref_farOf_con : Con Try.prog f_ref_farOf ref_farOf_ct := ref_farOf_vc ref_farOf_hC fun a b ⟨ha, hb⟩ => by
  have la : a.length ≤ 20 := ha
  have lb : b.length ≤ 20 := hb
  simp only [inI_iff, true_and, and_true, ne_eq, Int.reduceEq, not_false_eq_true, Int.toNat_zero, List.length_replicate] at *
  refine ⟨by omega, by omega, by omega, fun x t => 0 ≤ x ∧ x ≤ a.length + 1 ∧ t.length = a.length + 1 ∧ ∀ i : Int, 0 ≤ i → i < x → (gt t i).length = b.length + 1 ∧ ∀ k : Int, 0 ≤ k → k ≤ b.length → gt (gt t i) k = levZ a b i k, fun x _ => (a.length + 1 - x).toNat, ⟨by omega, by omega, by simp <;> omega, fun k a b => by omega⟩, ?_⟩
  rintro x t ⟨h0, h1, h2, h3⟩
  dsimp only
  refine ⟨fun u => ?_, fun u => ?_⟩
  · have ex : gt (t.set x.toNat (List.replicate ((b.length : Int) + 1).toNat 0)) x = List.replicate ((b.length : Int) + 1).toNat 0 := gt_set_eq h0 (by omega)
    rw [ex]
    simp only [List.length_replicate, List.length_set]
    refine ⟨by omega, by omega, by omega, h0, by omega, h0, by omega, fun y t1 => 0 ≤ y ∧ y ≤ b.length + 1 ∧ t1.length = a.length + 1 ∧ (∀ i : Int, 0 ≤ i → i < x → gt t1 i = gt t i) ∧ (gt t1 x).length = b.length + 1 ∧ ∀ k : Int, 0 ≤ k → k < y → gt (gt t1 x) k = levZ a b x k, fun y _ => (b.length + 1 - y).toNat, ⟨by omega, by omega, by simp; omega, fun i i0 i1 => gt_set_ne h0 i0 (by omega), by rw [ex]; simp <;> omega, fun k k0 k1 => by omega⟩, ?_⟩
    rintro y t1 ⟨k0, k1, k2, k3, k4, k5⟩
    dsimp only
    have step : ∀ v, y < b.length + 1 → v = levZ a b x y → 0 ≤ y + 1 ∧ y + 1 ≤ b.length + 1 ∧ (t1.set x.toNat ((gt t1 x).set y.toNat v)).length = a.length + 1 ∧ (∀ i : Int, 0 ≤ i → i < x → gt (t1.set x.toNat ((gt t1 x).set y.toNat v)) i = gt t i) ∧ (gt (t1.set x.toNat ((gt t1 x).set y.toNat v)) x).length = b.length + 1 ∧ ∀ k : Int, 0 ≤ k → k < y + 1 → gt (gt (t1.set x.toNat ((gt t1 x).set y.toNat v)) x) k = levZ a b x k := fun v hy hv => by
      have e : gt (t1.set x.toNat ((gt t1 x).set y.toNat v)) x = (gt t1 x).set y.toNat v := gt_set_eq h0 (by omega)
      refine ⟨by omega, by omega, by simp; omega, fun i i0 i1 => ?_, by rw [e]; simp; omega, fun k c0 c1 => ?_⟩
      · rw [gt_set_ne h0 i0 (by omega)]; exact k3 i i0 i1
      · rw [e]
        by_cases z : k = y
        · subst z; rw [gt_set_eq c0 (by omega)]; exact hv
        · rw [gt_set_ne k0 c0 (fun w => z w.symm)]; exact k5 k c0 (by omega)
    refine ⟨fun w => ⟨fun c => ?_, fun c => ⟨fun d => ?_, fun d => ?_⟩⟩, fun w => ⟨by omega, ⟨by omega, by omega, k2, fun i i0 i1 => ?_⟩, by omega⟩⟩
    · exact ⟨h0, by omega, k0, by omega, by omega, step _ (by omega) (by rw [c, levZ_zero k0]), by omega⟩
    · exact ⟨h0, by omega, k0, by omega, by omega, step _ (by omega) (by rw [d, levZ_left h0]), by omega⟩
    · have eo := k3 (x - 1) (by omega) (by omega)
      obtain ⟨p1, p2⟩ := h3 (x - 1) (by omega) (by omega)
      have q1 := p2 (y - 1) (by omega) (by omega)
      have q2 := p2 y (by omega) (by omega)
      have q3 := k5 (y - 1) (by omega) (by omega)
      have b1 := levZ_bd a b (show 0 ≤ x - 1 by omega) (show 0 ≤ y - 1 by omega)
      have b2 := levZ_bd a b (show 0 ≤ x - 1 by omega) (show 0 ≤ y by omega)
      have b3 := levZ_bd a b h0 (show 0 ≤ y - 1 by omega)
      rw [eo]
      refine ⟨by omega, by omega, by omega, by omega, by omega, by omega, fun e => ?_, fun e => ?_⟩
      · have ls := levZ_same (a := a) (b := b) (i := x - 1) (k := y - 1) (by omega) (by omega) e
        rw [show x - 1 + 1 = x by omega, show y - 1 + 1 = y by omega] at ls
        refine ⟨by omega, by omega, by omega, by omega, by omega, by omega, by omega, by omega, by omega, by omega, by omega, step _ (by omega) (by rw [q1, ls]), by omega⟩
      · have ls := levZ_other (a := a) (b := b) (i := x - 1) (k := y - 1) (by omega) (by omega) e
        rw [show x - 1 + 1 = x by omega, show y - 1 + 1 = y by omega] at ls
        rw [q1, q2, q3]
        exact ⟨by omega, by omega, by omega, by omega, by omega, by omega, by omega, by omega, by omega, by omega, by omega, by omega, by omega, by omega, by omega, by omega, by omega, by omega, by omega, by omega, by omega, by omega, step _ (by omega) ls.symm, by omega⟩
    · by_cases z : i = x
      · subst z; exact ⟨k4, fun k c0 c1 => k5 k c0 (by omega)⟩
      · rw [k3 i i0 (by omega)]; exact h3 i i0 (by omega)
  · obtain ⟨p1, p2⟩ := h3 a.length (by omega) (by omega)
    exact ⟨by omega, by omega, by omega, by omega, by rw [p2 b.length (by omega) (by omega)]; rfl⟩

theorem ref_FuzzyFar_hC : Cons Try.prog [(f_ref_farOf, ref_farOf_ct)] := ⟨ref_farOf_con, trivial⟩
theorem ref_FuzzyFar_con : Con Try.prog f_ref_FuzzyFar ref_FuzzyFar_ct := ref_FuzzyFar_vc ref_FuzzyFar_hC fun a b _ => by
  simp only [inI_iff, true_and, and_true, ne_eq, Int.reduceEq, not_false_eq_true, Int.toNat_zero, fuzzyFar]
  refine ⟨fun c => by rw [if_pos (by omega)]; exact ⟨rfl, rfl⟩, fun c => by rw [if_neg (by omega)]; exact ⟨⟨by simp only [wordPre]; omega, by simp only [wordPre]; omega⟩, rfl, rfl⟩⟩

theorem ref_FuzzyNear_hC : Cons Try.prog [(f_ref_FuzzyFar, ref_FuzzyFar_ct)] := ⟨ref_FuzzyFar_con, trivial⟩
theorem ref_FuzzyNear_con : Con Try.prog f_ref_FuzzyNear ref_FuzzyNear_ct := ref_FuzzyNear_vc ref_FuzzyNear_hC fun a b most _ => by
  simp only [inI_iff, true_and, and_true, ne_eq, Int.reduceEq, not_false_eq_true, Int.toNat_zero, fuzzyNear, fuzzyFar]
  by_cases c : 20 < a.length ∨ 20 < b.length
  · rw [if_pos c, if_pos c]
    exact ⟨fun _ => ⟨rfl, rfl⟩, fun d => absurd (by decide) d⟩
  · rw [if_neg c, if_neg c]
    refine ⟨fun d => absurd rfl d, fun _ => ⟨fun d => by rw [if_pos d]; exact ⟨rfl, rfl⟩, fun d => by rw [if_neg d]; exact ⟨rfl, rfl⟩⟩⟩

theorem law_FuzzyNears_hC : Cons Try.prog [(f_fuzzy_Near, fuzzy_Near_ct), (f_ref_FuzzyNear, ref_FuzzyNear_ct)] := ⟨fuzzy_Near_con, ref_FuzzyNear_con, trivial⟩
theorem law_FuzzyNears_con : Con Try.prog f_law_FuzzyNears law_FuzzyNears_ct := law_FuzzyNears_vc law_FuzzyNears_hC fun a b most _ => ⟨trivial, trivial, by simp⟩

end Go.Proofs.Ytigcaalfadoiaaa
