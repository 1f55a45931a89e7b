/- The contracts of the functions that the law reaches, and that of the law. Conditions: none. -/
import Derived.Test.YtkemhbclkglmbaaWFuzzyGuesses
import Derived.Test.YtkemhbclkglmbaaLay
import Derived.Test.YtkemhbclkglmbaaLayT
set_option linter.unusedVariables false
set_option linter.unusedSimpArgs false
set_option maxRecDepth 100000
namespace Go.Proofs.Ytkemhbclkglmbaa
open Go.Vc Go.Fu

theorem fuzzy_long_hC : Cons Try.prog [] := trivial
theorem fuzzy_long_con : Con Try.prog f_fuzzy_long fuzzy_long_ct := fuzzy_long_vc fuzzy_long_hC fun w hw => by
  simp only [inI_iff, true_and, and_true, ne_eq, Int.reduceEq, not_false_eq_true, Int.toNat_zero, longOf, bo_eq_bo, wordsPre] at *
  refine ⟨fun x => 0 ≤ x ∧ x ≤ w.length ∧ ∀ j : Int, 0 ≤ j → j < x → ¬ 20 < (gt w j).length, fun x => (w.length - x).toNat, ⟨by omega, by omega, fun j a b => by omega⟩, ?_⟩
  rintro x ⟨h0, h1, h2⟩
  dsimp only
  refine ⟨fun t => ⟨h0, t, fun u => ⟨fun _ => ⟨_, gt_mem h0 t, by omega⟩, fun _ => h0⟩, fun u => ⟨by omega, ⟨by omega, by omega, fun j a b => ?_⟩, by omega⟩⟩, fun t => ⟨fun c => by omega, ?_⟩⟩
  · by_cases e : j = x
    · subst e; omega
    · exact h2 j a (by omega)
  · rintro ⟨s, hs, c⟩
    obtain ⟨j, a, b, rfl⟩ := mem_gt hs
    exact absurd c (h2 j a (by omega))

theorem fuzzy_far_hC : Cons Try.prog [] := trivial
theorem fuzzy_far_con : Con Try.prog f_fuzzy_far fuzzy_far_ct := fuzzy_far_vc fuzzy_far_hC fun a b ⟨ha, hb⟩ => by
  have la : a.length ≤ 20 := ha
  have lb : b.length ≤ 20 := hb
  simp only [inI_iff, true_and, and_true, ne_eq, Int.reduceEq, not_false_eq_true, Int.toNat_zero, List.length_replicate, iteP_if] at *
  refine ⟨by omega, by omega, by omega, fun x row => 0 ≤ x ∧ x ≤ b.length + 1 ∧ row.length = b.length + 1 ∧ ∀ k : Int, 0 ≤ k → k < x → gt row k = k, fun x _ => (b.length + 1 - x).toNat, ⟨by omega, by omega, by simp <;> omega, fun k a b => by omega⟩, ?_⟩
  rintro x row ⟨h0, h1, h2, h3⟩
  dsimp only
  refine ⟨fun t => ⟨h0, by omega, by omega, ⟨by omega, by omega, by simp; omega, fun k k0 k1 => ?_⟩, by omega⟩, fun t => ?_⟩
  · by_cases e : k = x
    · subst e; exact gt_set_eq k0 (by omega)
    · rw [gt_set_ne h0 k0 (fun z => e z.symm)]; exact h3 k k0 (by omega)
  refine ⟨fun x row => 0 ≤ x ∧ x ≤ a.length ∧ row.length = b.length + 1 ∧ ∀ k : Int, 0 ≤ k → k ≤ b.length → gt row k = levZ a b x k, fun x _ => (a.length - x).toNat, ⟨by omega, by omega, by omega, fun k k0 k1 => by rw [levZ_zero k0]; exact h3 k k0 (by omega)⟩, ?_⟩
  rintro i row ⟨g0, g1, g2, g3⟩
  dsimp only
  refine ⟨fun t => ⟨by omega, by omega, by omega, by omega, by omega, fun corner k r => 0 ≤ k ∧ k ≤ b.length ∧ r.length = b.length + 1 ∧ corner = levZ a b i k ∧ (∀ j : Int, 0 ≤ j → j ≤ k → gt r j = levZ a b (i + 1) j) ∧ (∀ j : Int, k < j → j ≤ b.length → gt r j = levZ a b i j), fun _ k _ => (b.length - k).toNat, ⟨by omega, by omega, by simp; omega, g3 0 (by omega) (by omega), fun j j0 j1 => ?_, fun j j0 j1 => ?_⟩, ?_⟩, fun t => ⟨by omega, by omega, ?_⟩⟩
  · rw [show j = 0 by omega, levZ_left (by omega)]
    exact gt_set_eq (i := 0) (by omega) (by omega)
  · have := gt_set_ne (l := row) (i := 0) (j := j) (a := i + 1) (by omega) (by omega) (by omega)
    rw [Int.toNat_zero] at this
    rw [this]; exact g3 j (by omega) j1
  · rintro corner k r ⟨k0, k1, k2, k3, k4, k5⟩
    dsimp only
    refine ⟨fun u => ?_, fun u => ⟨by omega, ⟨by omega, by omega, k2, fun j j0 j1 => k4 j j0 (by omega)⟩, by omega⟩⟩
    have b1 := levZ_bd a b g0 k0
    have b2 := levZ_bd a b (show 0 ≤ i + 1 by omega) k0
    have b3 := levZ_bd a b g0 (show 0 ≤ k + 1 by omega)
    have e1 := k4 k k0 (by omega)
    have e2 := k5 (k + 1) (by omega) (by omega)
    have ls := levZ_step (a := a) (b := b) g0 k0
    rw [e1, e2, k3]
    refine ⟨g0, t, k0, u, fun _ => by omega, by omega, by omega, by omega, by omega, k0, by omega, by omega, by omega, by omega, by omega, by omega, by omega, by omega, by omega, ⟨by omega, by omega, by simp; omega, rfl, fun j j0 j1 => ?_, fun j j0 j1 => ?_⟩, by omega⟩
    · by_cases e : j = k + 1
      · subst e
        rw [gt_set_eq j0 (by omega), ls]
        by_cases z : gt a i = gt b k
        · rw [if_neg (by simp [z]), if_pos z]; omega
        · rw [if_pos z, if_neg z]
      · rw [gt_set_ne (by omega) j0 (fun z => e z.symm)]; exact k4 j j0 (by omega)
    · rw [gt_set_ne (by omega) (by omega) (by omega)]; exact k5 j (by omega) j1
  · have e := g3 b.length (by omega) (by omega)
    rw [e, show i = a.length by omega]; rfl

theorem cmp_isNaN_int__hC : Cons Try.prog [] := trivial
theorem cmp_isNaN_int__con : Con Try.prog f_cmp_isNaN_int_ cmp_isNaN_int__ct := cmp_isNaN_int__vc cmp_isNaN_int__hC fun x _ => by
  rw [bo_false]; exact fun h => h rfl

theorem cmp_Compare_int__hC : Cons Try.prog [(f_cmp_isNaN_int_, cmp_isNaN_int__ct)] := ⟨cmp_isNaN_int__con, trivial⟩
theorem cmp_Compare_int__con : Con Try.prog f_cmp_Compare_int_ cmp_Compare_int__ct := cmp_Compare_int__vc cmp_Compare_int__hC fun x y _ => by
  refine ⟨trivial, trivial, fun h => absurd h (by decide), fun _ => ⟨fun h => absurd h (by decide), fun _ => ⟨fun h => ?_, fun h => ⟨fun h2 => ?_, fun h2 => ?_⟩⟩⟩⟩ <;> unfold cmpI
  · rw [if_pos h]
  · rw [if_neg h, if_pos h2]
  · rw [if_neg h, if_neg h2]

theorem cmp_isNaN_string__hC : Cons Try.prog [] := trivial
theorem cmp_isNaN_string__con : Con Try.prog f_cmp_isNaN_string_ cmp_isNaN_string__ct := cmp_isNaN_string__vc cmp_isNaN_string__hC fun x _ => by
  rw [bo_false]; exact fun h => h rfl

theorem cmp_Compare_string__hC : Cons Try.prog [(f_cmp_isNaN_string_, cmp_isNaN_string__ct)] := ⟨cmp_isNaN_string__con, trivial⟩
theorem cmp_Compare_string__con : Con Try.prog f_cmp_Compare_string_ cmp_Compare_string__ct := cmp_Compare_string__vc cmp_Compare_string__hC fun x y _ => by
  refine ⟨trivial, trivial, fun h => absurd h (by decide), fun _ => ⟨fun h => absurd h (by decide), fun _ => ⟨fun h => ?_, fun h => ⟨fun h2 => ?_, fun h2 => ?_⟩⟩⟩⟩ <;> unfold cmpS
  · rw [if_pos h]
  · rw [if_neg h, if_pos (less_flip.2 h2)]
  · rw [if_neg h, if_neg (fun z => h2 (less_flip.1 z))]

theorem cmp_Or_int__hC : Cons Try.prog [] := trivial
theorem cmp_Or_int__con : Con Try.prog f_cmp_Or_int_ cmp_Or_int__ct := cmp_Or_int__vc cmp_Or_int__hC fun l h => by
  refine ⟨fun x => 0 ≤ x ∧ x ≤ l.length ∧ orL (l.drop x.toNat) = orL l, fun x => (l.length - x).toNat, ⟨by omega, by omega, rfl⟩, ?_⟩
  rintro x ⟨x0, x1, x2⟩
  have hf : (l.length : Int) ≤ 140737488351232 := by unfold fitL at h; omega
  refine ⟨fun hx => ⟨x0, hx, fun c => ?_, fun c => ⟨by unfold inI64; omega, ⟨by omega, by omega, ?_⟩, by dsimp only; omega⟩⟩, fun hx => ?_⟩
  · rw [← x2, drop_gt x0 hx, orL, if_pos c]
  · rw [drop_gt x0 hx, orL, if_neg c] at x2
    exact x2
  · rw [← x2, List.drop_eq_nil_of_le (by omega)]; rfl

theorem fuzzy_Guess_1_hC : Cons Try.prog [(f_cmp_Compare_int_, cmp_Compare_int__ct), (f_cmp_Compare_string_, cmp_Compare_string__ct), (f_cmp_Or_int_, cmp_Or_int__ct)] := ⟨cmp_Compare_int__con, cmp_Compare_string__con, cmp_Or_int__con, trivial⟩
theorem fuzzy_Guess_1_con : ConR Try.prog f_fuzzy_Guess_1 fuzzy_Guess_1_cr := fuzzy_Guess_1_vc fuzzy_Guess_1_hC fun fars ws a b ⟨h1, h2, h3, h4, h5, h6⟩ =>
  ⟨h1, h2, h4, h5, h1, h3, h4, h6, trivial, trivial, trivial, by simp [fitL], rfl⟩
theorem slices_SortFunc___int_int__con : FiOk Try.prog f_slices_SortFunc___int_int_ (sortFi guess_cq) := sort_fok Try.sortInts rfl (slices_SortFunc___int_int__ok.able rfl) fuzzy_Guess_1_con

theorem fuzzy_Guess_hC : Cons Try.prog [(f_fuzzy_long, fuzzy_long_ct), (f_fuzzy_far, fuzzy_far_ct)] := ⟨fuzzy_long_con, fuzzy_far_con, trivial⟩
theorem fuzzy_Guess_con : Con Try.prog f_fuzzy_Guess fuzzy_Guess_ct := fuzzy_Guess_vc fuzzy_Guess_hC slices_SortFunc___int_int__con fuzzy_Guess_1_con fun ws w many h => by
  have hlong : ((longOf [w] = true ∨ longOf ws = true) ∨ (80 : Int) < ws.length) ↔ (80 < ws.length ∨ 20 < w.length ∨ ∃ x ∈ ws, 20 < x.length) := by
    simp only [longOf, bo_true, List.mem_singleton, exists_eq_left]
    constructor
    · rintro ((c | c) | c)
      · exact .inr (.inl c)
      · exact .inr (.inr c)
      · exact .inl (by omega)
    · rintro (c | c | c)
      · exact .inr (by omega)
      · exact .inl (.inl c)
      · exact .inl (.inr c)
  refine ⟨by simp [wordsPre], fun _ => h, fun c => by rw [guess_a (hlong.1 c)]; exact ⟨rfl, rfl⟩, fun c => ?_⟩
  have c : ¬ (80 < ws.length ∨ 20 < w.length ∨ ∃ x ∈ ws, 20 < x.length) := fun z => c (hlong.2 z)
  refine ⟨fun d => by rw [guess_b c d]; exact ⟨rfl, rfl⟩, fun d => ?_⟩
  have c1 : ws.length ≤ 80 := by omega
  have c2 : w.length ≤ 20 := by omega
  have c3 : ∀ x ∈ ws, x.length ≤ 20 := fun x hx => Classical.byContradiction fun n => c (.inr (.inr ⟨x, hx, by omega⟩))
  refine ⟨rfl, by omega, by omega, fun x out fars => 0 ≤ x ∧ x ≤ ws.length ∧ out = upTo x.toNat ∧ fars.length = ws.length ∧ ∀ j : Int, 0 ≤ j → j < x → gt fars j = wFar ws w j, fun x _ _ => (ws.length - x).toNat, ⟨rfl, by omega, by omega, rfl, by simp, fun j a b => by omega⟩, ?_⟩
  rintro x out fars ⟨x0, x1, rfl, x3, x4⟩
  dsimp only
  have ul := upTo_len x.toNat
  refine ⟨fun t => ⟨x0, t, by omega, ⟨c3 _ (gt_mem x0 t), c2⟩, x0, by omega, by unfold inI64; omega, rfl, ⟨by omega, by omega, ?_, by simp; omega, fun j j0 j1 => ?_⟩, by omega⟩, fun t => ?_⟩
  · rw [show (x + 1).toNat = x.toNat + 1 by omega, upTo_succ, show ((x.toNat : Nat) : Int) = x by omega]
  · by_cases e : j = x
    · subst e
      rw [gt_set_eq j0 (by omega)]; rfl
    · rw [gt_set_ne x0 j0 (fun z => e z.symm)]
      exact x4 j j0 (by omega)
  · have ex : x.toNat = ws.length := by omega
    rw [ex] at ul ⊢
    have hf : ∀ i : Int, 0 ≤ i → i < ws.length → gt fars i = wFar ws w i := fun i a b => x4 i a (by omega)
    have so := gu_sorts hf
    have st := gu_stab hf
    have sl := pdqL_length so
    refine ⟨⟨by omega, fun x hx y hy => ?_, so⟩, by omega, by omega, by omega, rfl, ?_, ?_⟩
    · obtain ⟨a0, a1⟩ := upTo_mem.1 hx
      obtain ⟨b0, b1⟩ := upTo_mem.1 hy
      exact ⟨a0, by show x < (fars.length : Int); omega, a1, b0, by show y < (fars.length : Int); omega, b1⟩
    · rw [guess_c c d, sl, ul, st]
      simp
    · rw [guess_c c d]

theorem ref_farOf_hC : Cons Try.prog [] := trivial
theorem ref_farOf_con : Con Try.prog f_ref_farOf ref_farOf_ct := ref_farOf_vc ref_farOf_hC fun a b ⟨ha, hb⟩ => by
  have la : a.length ≤ 20 := ha
  have lb : b.length ≤ 20 := hb
  simp only [inI_iff, true_and, and_true, ne_eq, Int.reduceEq, not_false_eq_true, Int.toNat_zero, List.length_replicate] at *
  refine ⟨by omega, by omega, by omega, fun x t => 0 ≤ x ∧ x ≤ a.length + 1 ∧ t.length = a.length + 1 ∧ ∀ i : Int, 0 ≤ i → i < x → (gt t i).length = b.length + 1 ∧ ∀ k : Int, 0 ≤ k → k ≤ b.length → gt (gt t i) k = levZ a b i k, fun x _ => (a.length + 1 - x).toNat, ⟨by omega, by omega, by simp <;> omega, fun k a b => by omega⟩, ?_⟩
  rintro x t ⟨h0, h1, h2, h3⟩
  dsimp only
  refine ⟨fun u => ?_, fun u => ?_⟩
  · have ex : gt (t.set x.toNat (List.replicate ((b.length : Int) + 1).toNat 0)) x = List.replicate ((b.length : Int) + 1).toNat 0 := gt_set_eq h0 (by omega)
    rw [ex]
    simp only [List.length_replicate, List.length_set]
    refine ⟨by omega, by omega, by omega, h0, by omega, h0, by omega, fun y t1 => 0 ≤ y ∧ y ≤ b.length + 1 ∧ t1.length = a.length + 1 ∧ (∀ i : Int, 0 ≤ i → i < x → gt t1 i = gt t i) ∧ (gt t1 x).length = b.length + 1 ∧ ∀ k : Int, 0 ≤ k → k < y → gt (gt t1 x) k = levZ a b x k, fun y _ => (b.length + 1 - y).toNat, ⟨by omega, by omega, by simp; omega, fun i i0 i1 => gt_set_ne h0 i0 (by omega), by rw [ex]; simp <;> omega, fun k k0 k1 => by omega⟩, ?_⟩
    rintro y t1 ⟨k0, k1, k2, k3, k4, k5⟩
    dsimp only
    have step : ∀ v, y < b.length + 1 → v = levZ a b x y → 0 ≤ y + 1 ∧ y + 1 ≤ b.length + 1 ∧ (t1.set x.toNat ((gt t1 x).set y.toNat v)).length = a.length + 1 ∧ (∀ i : Int, 0 ≤ i → i < x → gt (t1.set x.toNat ((gt t1 x).set y.toNat v)) i = gt t i) ∧ (gt (t1.set x.toNat ((gt t1 x).set y.toNat v)) x).length = b.length + 1 ∧ ∀ k : Int, 0 ≤ k → k < y + 1 → gt (gt (t1.set x.toNat ((gt t1 x).set y.toNat v)) x) k = levZ a b x k := fun v hy hv => by
      have e : gt (t1.set x.toNat ((gt t1 x).set y.toNat v)) x = (gt t1 x).set y.toNat v := gt_set_eq h0 (by omega)
      refine ⟨by omega, by omega, by simp; omega, fun i i0 i1 => ?_, by rw [e]; simp; omega, fun k c0 c1 => ?_⟩
      · rw [gt_set_ne h0 i0 (by omega)]; exact k3 i i0 i1
      · rw [e]
        by_cases z : k = y
        · subst z; rw [gt_set_eq c0 (by omega)]; exact hv
        · rw [gt_set_ne k0 c0 (fun w => z w.symm)]; exact k5 k c0 (by omega)
    refine ⟨fun w => ⟨fun c => ?_, fun c => ⟨fun d => ?_, fun d => ?_⟩⟩, fun w => ⟨by omega, ⟨by omega, by omega, k2, fun i i0 i1 => ?_⟩, by omega⟩⟩
    · exact ⟨h0, by omega, k0, by omega, by omega, step _ (by omega) (by rw [c, levZ_zero k0]), by omega⟩
    · exact ⟨h0, by omega, k0, by omega, by omega, step _ (by omega) (by rw [d, levZ_left h0]), by omega⟩
    · have eo := k3 (x - 1) (by omega) (by omega)
      obtain ⟨p1, p2⟩ := h3 (x - 1) (by omega) (by omega)
      have q1 := p2 (y - 1) (by omega) (by omega)
      have q2 := p2 y (by omega) (by omega)
      have q3 := k5 (y - 1) (by omega) (by omega)
      have b1 := levZ_bd a b (show 0 ≤ x - 1 by omega) (show 0 ≤ y - 1 by omega)
      have b2 := levZ_bd a b (show 0 ≤ x - 1 by omega) (show 0 ≤ y by omega)
      have b3 := levZ_bd a b h0 (show 0 ≤ y - 1 by omega)
      rw [eo]
      refine ⟨by omega, by omega, by omega, by omega, by omega, by omega, fun e => ?_, fun e => ?_⟩
      · have ls := levZ_same (a := a) (b := b) (i := x - 1) (k := y - 1) (by omega) (by omega) e
        rw [show x - 1 + 1 = x by omega, show y - 1 + 1 = y by omega] at ls
        refine ⟨by omega, by omega, by omega, by omega, by omega, by omega, by omega, by omega, by omega, by omega, by omega, step _ (by omega) (by rw [q1, ls]), by omega⟩
      · have ls := levZ_other (a := a) (b := b) (i := x - 1) (k := y - 1) (by omega) (by omega) e
        rw [show x - 1 + 1 = x by omega, show y - 1 + 1 = y by omega] at ls
        rw [q1, q2, q3]
        exact ⟨by omega, by omega, by omega, by omega, by omega, by omega, by omega, by omega, by omega, by omega, by omega, by omega, by omega, by omega, by omega, by omega, by omega, by omega, by omega, by omega, by omega, by omega, step _ (by omega) ls.symm, by omega⟩
    · by_cases z : i = x
      · subst z; exact ⟨k4, fun k c0 c1 => k5 k c0 (by omega)⟩
      · rw [k3 i i0 (by omega)]; exact h3 i i0 (by omega)
  · obtain ⟨p1, p2⟩ := h3 a.length (by omega) (by omega)
    exact ⟨by omega, by omega, by omega, by omega, by rw [p2 b.length (by omega) (by omega)]; rfl⟩

theorem ref_FuzzyGuess_1_hC : Cons Try.prog [(f_ref_farOf, ref_farOf_ct)] := ⟨ref_farOf_con, trivial⟩
theorem ref_FuzzyGuess_1_con : ConR Try.prog f_ref_FuzzyGuess_1 ref_FuzzyGuess_1_cr := ref_FuzzyGuess_1_vc ref_FuzzyGuess_1_hC fun ws ls w i k ⟨h1, h2, h3, h4, ⟨a1, a2, a3, a4⟩, ⟨b1, b2, b3, b4⟩⟩ =>
  ⟨h1, h2, a1, a2, h3, h4, b1, b2, ⟨a3, a4⟩, ⟨b3, b4⟩, rfl⟩
theorem internal_reflectlite_Swapper_5_con : ConZ Try.prog f_internal_reflectlite_Swapper_5 swpG_cz := swpD_con (sw_con (g := true) (ag := false) (by kernel_rfl) rfl ⟨⟨(Try.prog.info? 3).get (by kernel_rfl), by kernel_rfl, by kernel_rfl⟩, fun _ => by kernel_rfl, fun _ => rfl⟩ (by decide)
  fun args W => run_callFunc_extern Try.func133 (by kernel_rfl) (by kernel_rfl) (by kernel_rfl) (e := Go.Extern.ReflectliteSwapper.swap true) (by kernel_rfl) args W)

theorem sort_insertionSort_func_hC : Cons Try.prog [] := trivial
theorem sort_insertionSort_func_con : ConZ Try.prog f_sort_insertionSort_func insG_cz := sort_insertionSort_func_vc sort_insertionSort_func_hC ref_FuzzyGuess_1_con internal_reflectlite_Swapper_5_con fun ws wd ls a b h => by
  obtain ⟨a0, ab, bl, hf, hel, hs⟩ := h
  have hf : (ls.length : Int) ≤ 140737488351232 := hf
  have hs : Swo (gLt ws wd) := hs
  have okg : ∀ e : List Int, Part (gLt ws wd) ls e a b → ∀ i : Int, 0 ≤ i → i < e.length → grOk (ws, wd) (gt e i) := fun e he i i0 i1 => hel _ (prt_mem he (gt_mem i0 i1))
  refine ⟨by unfold inI64; omega, fun i d => a + 1 ≤ i ∧ (i ≤ b ∨ i ≤ a + 1) ∧ Part (gLt ws wd) ls d a b ∧ SrtIn (gLt ws wd) d a i, fun i _ => (b - i).toNat, ⟨rfl, rfl, by omega, by omega, .refl _ _ _, fun p q p0 pq qa => by omega⟩, ?_⟩
  rintro i d ⟨i0, i1, hp, hsr⟩
  have ld := hp.len
  refine ⟨fun hi => ⟨fun j e => a ≤ j ∧ j ≤ i ∧ Part (gLt ws wd) ls e a b ∧ InsIn (gLt ws wd) e a i j, fun j _ => j.toNat, ⟨rfl, rfl, by omega, by omega, hp, hsr.ins⟩, ?_⟩, fun hi => (seg_eq hs hp (fun p q p0 pq qb => hsr p q p0 pq (by omega)) a0 ab bl).symm⟩
  rintro j e ⟨j0, j1, hq, hin⟩
  have le := hq.len
  have go : a < j → (gLt ws wd) (gt e j) (gt e (j - 1)) → _ := fun c q => (⟨by omega, by omega, swp_part hs hq a0 c (by omega) (by omega) q, hin.step hs a0 c j1 (by omega) q⟩ : a ≤ j - 1 ∧ j - 1 ≤ i ∧ Part (gLt ws wd) ls (swpL e j (j - 1)) a b ∧ InsIn (gLt ws wd) (swpL e j (j - 1)) a i (j - 1))
  refine ⟨fun c => by unfold inI64; omega, fun c => ⟨⟨by omega, by show _ < (e.length : Int); omega, by omega, by show _ < (e.length : Int); omega, okg _ hq _ (by omega) (by omega), okg _ hq _ (by omega) (by omega)⟩, fun q => ?_, fun q => ?_⟩, fun c => ?_⟩
  · have q2 := bo_true.1 q.2
    exact ⟨by unfold inI64; omega, ⟨by omega, by omega, by omega, by omega⟩, by unfold inI64; omega, rfl, rfl, go c q2, by dsimp only; omega⟩
  · exact ⟨by unfold inI64; omega, rfl, rfl, ⟨by omega, by omega, hq, hin.done hs j0 j1 fun w => q ⟨w.1, bo_true.2 w.2⟩⟩, by dsimp only; omega⟩
  · exact ⟨by unfold inI64; omega, rfl, rfl, ⟨by omega, by omega, hq, hin.done hs j0 j1 fun w => c w.1⟩, by dsimp only; omega⟩

theorem sort_swapRange_func_hC : Cons Try.prog [] := trivial
theorem sort_swapRange_func_con : ConZ Try.prog f_sort_swapRange_func swrG_cz := sort_swapRange_func_vc sort_swapRange_func_hC internal_reflectlite_Swapper_5_con fun ws wd ls a b n h => by
  obtain ⟨a0, b0, n0, h1, h2, hd, hf⟩ := h
  refine ⟨fun i d => 0 ≤ i ∧ i ≤ n ∧ d = swr ls a b i, fun i _ => (n - i).toNat, ⟨rfl, rfl, by omega, n0, (swr_zero ls a b).symm⟩, ?_⟩
  rintro i d ⟨i0, i1, rfl⟩
  have ll := swr_len ls a b i
  refine ⟨fun hi => ⟨by unfold inI64; omega, by unfold inI64; omega, ⟨by omega, by omega, by omega, by omega⟩, by unfold inI64; omega, rfl, rfl, ⟨by omega, by omega, swr_succ a0 b0 i0 (by omega) (by omega) (by omega)⟩, by dsimp only; omega⟩, fun hi => by rw [show i = n by omega]⟩

theorem sort_rotate_func_hC : Cons Try.prog [] := trivial
theorem sort_rotate_func_con : ConZ Try.prog f_sort_rotate_func rotG_cz := sort_rotate_func_vc sort_rotate_func_hC sort_swapRange_func_con fun ws wd ls a m b h => by
  obtain ⟨a0, am, mb, bl, hf⟩ := h
  refine ⟨by unfold inI64; omega, by unfold inI64; omega, fun i j d => 0 < i ∧ 0 < j ∧ i ≤ m - a ∧ j ≤ b - m ∧ d.length = ls.length ∧ rotL d (m - i) m (m + j) = rotL ls a m b, fun i j _ => (i + j).toNat, ⟨rfl, rfl, by omega, by omega, by omega, by omega, rfl, by rw [show m - (m - a) = a by omega, show m + (b - m) = b by omega]⟩, ?_⟩
  rintro i j d ⟨i0, j0, i1, j1, dl, e⟩
  refine ⟨fun hne => ⟨fun c => ?_, fun c => ?_⟩, fun hq => ?_⟩
  · refine ⟨by unfold inI64; omega, ⟨by omega, by omega, by omega, by omega, by omega, by omega, by omega⟩, by unfold inI64; omega, rfl, rfl, ⟨by omega, by omega, by omega, by omega, by rw [swr_len]; exact dl, ?_⟩, by dsimp only; omega⟩
    rw [rot_step1 j0 c (by omega) (by omega)]; exact e
  · refine ⟨by unfold inI64; omega, by unfold inI64; omega, by unfold inI64; omega, ⟨by omega, by omega, by omega, by omega, by omega, by omega, by omega⟩, by unfold inI64; omega, rfl, rfl, ⟨by omega, by omega, by omega, by omega, by rw [swr_len]; exact dl, ?_⟩, by dsimp only; omega⟩
    rw [rot_step2 i0 (by omega) (by omega) (by omega)]; exact e
  · have hij : i = j := Classical.not_not.1 hq
    subst hij
    refine ⟨by unfold inI64; omega, ⟨by omega, by omega, by omega, by omega, by omega, by omega, by omega⟩, ?_⟩
    rw [rot_last i0 (by omega) (by omega)]; exact e

theorem sort_symMerge_func_hC : Cons Try.prog [] := trivial
theorem sort_symMerge_func_one (n : Nat) (hr : ConZ Try.prog f_sort_symMerge_func (symNG_cz n)) : ConZ Try.prog f_sort_symMerge_func (symNG_cz n.succ) := sort_symMerge_func_vc sort_symMerge_func_hC n sort_rotate_func_con hr ref_FuzzyGuess_1_con internal_reflectlite_Swapper_5_con fun ws wd ls a m b h => by
  obtain ⟨⟨a0, am, mb, bl, ⟨hf, hel, hs⟩, sl, sr⟩, hn⟩ := h
  have bl : b ≤ (ls.length : Int) := bl
  have hf : (ls.length : Int) ≤ 140737488351232 := hf
  have hs : Swo (gLt ws wd) := hs
  have sl : SrtIn (gLt ws wd) ls a m := sl
  have sr : SrtIn (gLt ws wd) ls m b := sr
  have okc : ∀ d : List Int, d.length = ls.length → (∀ x ∈ d, x ∈ ls) → okAllD gu_q (ws, wd) d := fun d hd hm => ⟨by show (d.length : Int) ≤ _; omega, fun x hx => hel x (hm x hx), hs⟩
  refine ⟨by unfold inI64; omega, fun h1 => ?_, fun h1 => ⟨by unfold inI64; omega, fun h2 => ?_, fun h2 => ?_⟩⟩
  · have em : m = a + 1 := by omega
    subst em
    refine ⟨fun i j => a + 1 ≤ i ∧ i ≤ j ∧ j ≤ b ∧ (∀ q : Int, a + 1 ≤ q → q < i → (gLt ws wd) (gt ls q) (gt ls a)) ∧ ∀ q : Int, j ≤ q → q < b → ¬ (gLt ws wd) (gt ls q) (gt ls a), fun i j => (j - i).toNat, ⟨rfl, rfl, rfl, by omega, by omega, by omega, fun q _ _ => by omega, fun q _ _ => by omega⟩, ?_⟩
    rintro i j ⟨i0, ij, jb, lo, hi⟩
    rw [half64 (by omega) (by omega)]
    refine ⟨fun hx => ⟨by unfold inI64; omega, by decide, by unfold inI64; omega, ⟨by omega, by show _ < (ls.length : Int); omega, by omega, by show _ < (ls.length : Int); omega, hel _ (gt_mem (by omega) (by omega)), hel _ (gt_mem (by omega) (by omega))⟩, fun c => ?_, fun c => ?_⟩, fun hx => ?_⟩
    · have c := bo_true.1 c
      refine ⟨by unfold inI64; omega, rfl, rfl, rfl, ⟨by omega, by omega, jb, fun q q0 q1 => ?_, hi⟩, by dsimp only; omega⟩
      by_cases e : q = (i + j) / 2
      · rw [e]; exact c
      · refine Classical.not_not.1 fun w => ?_
        exact hs.ntrans _ _ _ (sr q ((i + j) / 2) q0 (by omega) (by omega)) w c
    · have c := fun w => c (bo_true.2 w)
      refine ⟨rfl, rfl, rfl, ⟨i0, by omega, by omega, lo, fun q q0 q1 => ?_⟩, by dsimp only; omega⟩
      by_cases e : q = (i + j) / 2
      · rw [e]; exact c
      · exact hs.ntrans _ _ _ (sr ((i + j) / 2) q (by omega) (by omega) q1) c
    · have ej : j = i := by omega
      subst ej
      refine ⟨fun k d => a ≤ k ∧ k ≤ j - 1 ∧ Part (gLt ws wd) ls d a b ∧ ShL ls d a k, fun k _ => (j - k).toNat, ⟨rfl, rfl, by omega, by omega, .refl _ _ _, rfl, rfl, fun p _ _ => by omega, fun p _ _ => rfl⟩, ?_⟩
      rintro k d ⟨k0, k1, hp, hh⟩
      have dl := hp.len
      refine ⟨by unfold inI64; omega, fun hk => ?_, fun hk => ?_⟩
      · have q : (gLt ws wd) (gt d (k + 1)) (gt d (k + 1 - 1)) := by
          rw [show k + 1 - 1 = k by omega, hh.at_, hh.hi _ (by omega) (by omega)]
          exact lo _ (by omega) (by omega)
        have p2 := swp_part hs hp a0 (show a < k + 1 by omega) (by omega) (by omega) q
        rw [show k + 1 - 1 = k by omega, swpL_comm (by omega) (by omega) (by omega) (by omega)] at p2
        exact ⟨by unfold inI64; omega, ⟨by omega, by omega, by omega, by omega⟩, by unfold inI64; omega, rfl, rfl, ⟨by omega, by omega, p2, hh.step a0 k0 (by omega)⟩, by dsimp only; omega⟩
      · have ek : k = j - 1 := by omega
        subst ek
        exact (seg_eq hs hp (hh.srt hs a0 bl i0 jb sr lo hi) a0 (by omega) bl).symm
  · have em : b = m + 1 := by omega
    subst em
    refine ⟨fun i j => a ≤ i ∧ i ≤ j ∧ j ≤ m ∧ (∀ q : Int, a ≤ q → q < i → ¬ (gLt ws wd) (gt ls m) (gt ls q)) ∧ ∀ q : Int, j ≤ q → q < m → (gLt ws wd) (gt ls m) (gt ls q), fun i j => (j - i).toNat, ⟨rfl, rfl, rfl, by omega, by omega, by omega, fun q _ _ => by omega, fun q _ _ => by omega⟩, ?_⟩
    rintro i j ⟨i0, ij, jb, lo, hi⟩
    rw [half64 (by omega) (by omega)]
    refine ⟨fun hx => ⟨by unfold inI64; omega, by decide, by unfold inI64; omega, ⟨by omega, by show _ < (ls.length : Int); omega, by omega, by show _ < (ls.length : Int); omega, hel _ (gt_mem (by omega) (by omega)), hel _ (gt_mem (by omega) (by omega))⟩, fun c => ?_, fun c => ?_⟩, fun hx => ?_⟩
    · have c := fun w => c (bo_true.2 w)
      refine ⟨by unfold inI64; omega, rfl, rfl, rfl, ⟨by omega, by omega, jb, fun q q0 q1 => ?_, hi⟩, by dsimp only; omega⟩
      by_cases e : q = (i + j) / 2
      · rw [e]; exact c
      · exact hs.ntrans _ _ _ c (sl q ((i + j) / 2) q0 (by omega) (by omega))
    · have c := bo_true.1 (Classical.not_not.1 c)
      refine ⟨rfl, rfl, rfl, ⟨i0, by omega, by omega, lo, fun q q0 q1 => ?_⟩, by dsimp only; omega⟩
      by_cases e : q = (i + j) / 2
      · rw [e]; exact c
      · refine Classical.not_not.1 fun w => ?_
        exact hs.ntrans _ _ _ w (sl ((i + j) / 2) q (by omega) (by omega) q1) c
    · have ej : j = i := by omega
      subst ej
      refine ⟨fun k d => j ≤ k ∧ k ≤ m ∧ Part (gLt ws wd) ls d a (m + 1) ∧ ShR ls d m k, fun k _ => k.toNat, ⟨rfl, rfl, by omega, by omega, .refl _ _ _, rfl, rfl, fun p _ _ => rfl, fun p _ _ => by omega⟩, ?_⟩
      rintro k d ⟨k0, k1, hp, hh⟩
      have dl := hp.len
      refine ⟨fun hk => ?_, fun hk => ?_⟩
      · have q : (gLt ws wd) (gt d k) (gt d (k - 1)) := by
          rw [hh.at_, hh.lo _ (by omega) (by omega)]
          exact hi _ (by omega) (by omega)
        exact ⟨by unfold inI64; omega, ⟨by omega, by omega, by omega, by omega⟩, by unfold inI64; omega, rfl, rfl, ⟨by omega, by omega, swp_part hs hp a0 (by omega) (by omega) bl q, hh.step (by omega) k1 (by omega)⟩, by dsimp only; omega⟩
      · have ek : k = j := by omega
        subst ek
        exact (seg_eq hs hp (hh.srt hs a0 (by omega) i0 k1 sl hi lo) a0 (by omega) bl).symm
  · rw [half64 (by omega) (by omega)]
    have hs0 : iteP ((a + b) / 2 < m) ((a + b) / 2 + m - b) a = if (a + b) / 2 < m then (a + b) / 2 + m - b else a := iteP_if
    have hr0 : iteP ((a + b) / 2 < m) ((a + b) / 2) m = if (a + b) / 2 < m then (a + b) / 2 else m := iteP_if
    generalize iteP ((a + b) / 2 < m) ((a + b) / 2 + m - b) a = s0 at *
    generalize iteP ((a + b) / 2 < m) ((a + b) / 2) m = r0 at *
    have hmid : 2 * ((a + b) / 2) ≤ a + b ∧ a + b ≤ 2 * ((a + b) / 2) + 1 := by omega
    generalize (a + b) / 2 = mid at *
    have hsr : (mid < m ∧ s0 = mid + m - b ∧ r0 = mid) ∨ (¬ mid < m ∧ s0 = a ∧ r0 = m) := by
      by_cases c : mid < m
      · rw [if_pos c] at hs0 hr0; exact .inl ⟨c, hs0, hr0⟩
      · rw [if_neg c] at hs0 hr0; exact .inr ⟨c, hs0, hr0⟩
    clear hs0 hr0
    refine ⟨by unfold inI64; omega, by decide, by unfold inI64; omega, by unfold inI64; omega, fun _ => by unfold inI64; omega, by unfold inI64; omega, fun st r => s0 ≤ st ∧ st ≤ r ∧ r ≤ r0 ∧ (s0 < st → ¬ (gLt ws wd) (gt ls (mid + m - 1 - (st - 1))) (gt ls (st - 1))) ∧ (r < r0 → (gLt ws wd) (gt ls (mid + m - 1 - r)) (gt ls r)), fun st r => (r - st).toNat, ⟨rfl, rfl, rfl, by omega, by omega, by omega, fun _ => by omega, fun _ => by omega⟩, ?_⟩
    rintro st r ⟨p0, p1, p2, p3, p4⟩
    refine ⟨fun hx => ?_, fun hx => ?_⟩
    · rw [half64 (by omega) (by omega)]
      have hm2 : 2 * ((st + r) / 2) ≤ st + r ∧ st + r ≤ 2 * ((st + r) / 2) + 1 := by omega
      generalize (st + r) / 2 = c at *
      refine ⟨by unfold inI64; omega, by decide, by unfold inI64; omega, by unfold inI64; omega, ⟨by omega, by show _ < (ls.length : Int); omega, by omega, by show _ < (ls.length : Int); omega, hel _ (gt_mem (by omega) (by omega)), hel _ (gt_mem (by omega) (by omega))⟩, fun q => ⟨by unfold inI64; omega, rfl, rfl, rfl, ⟨by omega, by omega, p2, fun _ => ?_, p4⟩, by dsimp only; omega⟩, fun q => ⟨rfl, rfl, rfl, ⟨p0, by omega, by omega, p3, fun _ => bo_true.1 (Classical.not_not.1 q)⟩, by dsimp only; omega⟩⟩
      rw [show c + 1 - 1 = c by omega]; exact fun w => q (bo_true.2 w)
    · have er : r = st := by omega
      subst er
      have ok : SymOk (gLt ws wd) ls a m b mid r (mid + m - r) := ⟨a0, am, mb, bl, rfl, by omega, by omega, by omega, by omega, by omega, by omega, sl, sr, fun c1 c2 => by
          have := p3 (by omega)
          rwa [show mid + m - 1 - (r - 1) = mid + m - r by omega] at this, fun c1 c2 => by
          have := p4 (by omega)
          rwa [show mid + m - 1 - r = mid + m - r - 1 by omega] at this⟩
      have g1 := ok.s0; have g2 := ok.s1; have g3 := ok.s2; have g4 := ok.e0; have g5 := ok.e1; have g6 := ok.e2
      have len1 := rotL_len ls r m (mid + m - r)
      -- what the calls are given, and what comes of them
      have key : ∀ d1 : List Int, d1 = rotL ls r m (mid + m - r) → (a < r ∧ r < mid → (symPreD gu_q (ws, wd) d1 a r mid ∧ mid - a < (↑n : Int)) ∧ (mid < mid + m - r ∧ mid + m - r < b → (symPreD gu_q (ws, wd) (seg (gLt ws wd) d1 a mid) mid (mid + m - r) b ∧ b - mid < (↑n : Int)) ∧ seg (gLt ws wd) (seg (gLt ws wd) d1 a mid) mid b = seg (gLt ws wd) ls a b) ∧ (¬ (mid < mid + m - r ∧ mid + m - r < b) → seg (gLt ws wd) d1 a mid = seg (gLt ws wd) ls a b)) ∧
          (¬ (a < r ∧ r < mid) → (mid < mid + m - r ∧ mid + m - r < b → (symPreD gu_q (ws, wd) d1 mid (mid + m - r) b ∧ b - mid < (↑n : Int)) ∧ seg (gLt ws wd) d1 mid b = seg (gLt ws wd) ls a b) ∧ (¬ (mid < mid + m - r ∧ mid + m - r < b) → d1 = seg (gLt ws wd) ls a b)) := fun d1 hd => by
        subst hd
        obtain ⟨u1, u2⟩ := seg_spec hs (l := rotL ls r m (mid + m - r)) (a := a) (b := mid) a0 (by omega) (by omega)
        have ul := u1.len
        have right2 : ∀ {d : List Int}, Part (gLt ws wd) (rotL ls r m (mid + m - r)) d a mid → SrtIn (gLt ws wd) d mid (mid + m - r) ∧ SrtIn (gLt ws wd) d (mid + m - r) b ∧ (¬ (mid < mid + m - r ∧ mid + m - r < b) → SrtIn (gLt ws wd) d mid b) := fun {d} hd =>
          ⟨srt_out hd (by omega) (by omega) (.inr (Int.le_refl _)) ok.srt3, srt_out hd (by omega) (by omega) (.inr (by omega)) ok.srt4, fun c => srt_out hd (by omega) (by omega) (.inr (Int.le_refl _)) (ok.right c)⟩
        refine ⟨fun c => ⟨⟨⟨a0, c.1, c.2, by show mid ≤ ((rotL ls r m (mid + m - r)).length : Int); omega, okc _ len1 (fun x hx => rot_mem (by omega) (by omega) (by omega) (by omega) hx), ok.srt1, ok.srt2⟩, by omega⟩, fun c2 => ?_, fun c2 => ?_⟩, fun c => ⟨fun c2 => ?_, fun c2 => ?_⟩⟩
        · obtain ⟨w1, w2, _⟩ := right2 u1
          refine ⟨⟨⟨by omega, c2.1, c2.2, Int.le_trans bl (Int.ofNat_le.2 (Nat.le_of_eq (ul.trans len1).symm)), okc _ (ul.trans len1) (fun x hx => rot_mem (by omega) (by omega) (by omega) (by omega) (prt_mem u1 hx)), w1, w2⟩, by omega⟩, ?_⟩
          obtain ⟨v1, v2⟩ := seg_spec hs (l := seg (gLt ws wd) (rotL ls r m (mid + m - r)) a mid) (a := mid) (b := b) (by omega) (by omega) (by omega)
          exact ok.fin hs u1 u2 v1 v2
        · exact ok.fin hs u1 u2 (.refl _ _ _) ((right2 u1).2.2 c2)
        · obtain ⟨w1, w2, _⟩ := right2 (.refl _ _ _)
          refine ⟨⟨⟨by omega, c2.1, c2.2, by show b ≤ ((rotL ls r m (mid + m - r)).length : Int); omega, okc _ len1 (fun x hx => rot_mem (by omega) (by omega) (by omega) (by omega) hx), w1, w2⟩, by omega⟩, ?_⟩
          obtain ⟨v1, v2⟩ := seg_spec hs (l := rotL ls r m (mid + m - r)) (a := mid) (b := b) (by omega) (by omega) (by omega)
          exact ok.fin hs (.refl _ _ _) (ok.left c) v1 v2
        · exact ok.fin hs (.refl _ _ _) (ok.left c) (.refl _ _ _) ((right2 (.refl _ _ _)).2.2 c2)
      refine ⟨by unfold inI64; omega, fun c => ⟨⟨by omega, c.1, c.2, by omega, hf⟩, key _ rfl⟩, fun c => key ls (rot_id (by omega) g2 g4).symm⟩
theorem sort_symMerge_func_all : ∀ n : Nat, ConZ Try.prog f_sort_symMerge_func (symNG_cz n)
  | 0 => ⟨trivial, by kernel_rfl, symNG_cz_dec 0, fun k ls (a : Int × Int × Int) h => by
    obtain ⟨⟨_, h1, h2, _⟩, h3⟩ := h
    have h1 : a.1 < a.2.1 := h1
    have h2 : a.2.1 < a.2.2 := h2
    have h3 : a.2.2 - a.1 < ((0 : Nat) : Int) := h3
    omega⟩
  | n + 1 => sort_symMerge_func_one n (sort_symMerge_func_all n)
theorem sort_symMerge_func_con : ConZ Try.prog f_sort_symMerge_func symG_cz := ⟨trivial, by kernel_rfl, symG_cz_dec, fun k ls (a : Int × Int × Int) h => (sort_symMerge_func_all (a.2.2 - a.1 + 1).toNat).2.2.2 k ls a ⟨h, by
  have h1 : a.1 < a.2.1 := h.2.1
  have h2 : a.2.1 < a.2.2 := h.2.2.1
  show a.2.2 - a.1 < (((a.2.2 - a.1 + 1).toNat : Nat) : Int)
  omega⟩⟩

theorem sort_stable_func_hC : Cons Try.prog [] := trivial
theorem sort_stable_func_con : ConZ Try.prog f_sort_stable_func stbG_cz := sort_stable_func_vc sort_stable_func_hC sort_insertionSort_func_con sort_symMerge_func_con fun ws wd ls n h => by
  obtain ⟨hn, hf, hel, hs⟩ := h
  have hn : n = (ls.length : Int) := hn
  have hf : (ls.length : Int) ≤ 140737488351232 := hf
  have hs : Swo (gLt ws wd) := hs
  subst hn
  have okc : ∀ d : List Int, d.length = ls.length → (∀ x ∈ d, x ∈ ls) → okAllD gu_q (ws, wd) d := fun d hd hm => ⟨by show (d.length : Int) ≤ _; omega, fun x hx => hel x (hm x hx), hs⟩
  refine ⟨fun a b d => 0 ≤ a ∧ b = a + 20 ∧ a ≤ ls.length ∧ (20 : Int) ∣ a ∧ Part (gLt ws wd) ls d 0 ls.length ∧ BlkTo (gLt ws wd) d 20 a, fun a _ _ => (ls.length - a).toNat, ⟨rfl, rfl, by omega, by omega, by omega, by omega, .refl _ _ _, .zero _ _⟩, ?_⟩
  rintro a b d ⟨a0, rfl, al, ad, hp, hb⟩
  have dl := hp.len
  refine ⟨fun hx => ?_, fun hx => ?_⟩
  · obtain ⟨g1, g2⟩ := seg_spec hs (l := d) (a := a) (b := a + 20) a0 (by omega) (by omega)
    exact ⟨⟨a0, by omega, by omega, okc d dl (fun x hx => prt_mem hp hx)⟩, by unfold inI64; omega, rfl, rfl, ⟨by omega, rfl, by omega, by omega, hp.trans (g1.wide a0 (by omega)), hb.step g1 g2 a0 (by omega) (by omega) ad⟩, by dsimp only; omega⟩
  · obtain ⟨g1, g2⟩ := seg_spec hs (l := d) (a := a) (b := ls.length) a0 al (by omega)
    have hp1 := hp.trans (g1.wide a0 (Int.le_refl _))
    have hl1 := hp1.len
    refine ⟨⟨a0, al, by omega, okc d dl (fun x hx => prt_mem hp hx)⟩, fun w e => 20 ≤ w ∧ Part (gLt ws wd) ls e 0 ls.length ∧ BlkFrom (gLt ws wd) e w 0, fun w _ => (ls.length - w).toNat, ⟨rfl, rfl, by omega, hp1, ?_⟩, ?_⟩
    · refine blk_all (a := a) (fun c c0 c1 hc => ?_) ad (by omega) (by omega) (by rw [hl1]; exact g2)
      have cw : c + 20 ≤ a := by
        have := Int.le_of_dvd (show 0 < a - c by omega) (Int.dvd_sub ad hc); omega
      exact srt_out g1 c0 (by omega) (.inl cw) (hb c c0 c1 hc)
    rintro w e ⟨w0, hq, hw⟩
    have el := hq.len
    refine ⟨fun hx => ⟨by unfold inI64; omega, fun a b e => 0 ≤ a ∧ b = a + 2 * w ∧ a ≤ ls.length ∧ 2 * w ∣ a ∧ Part (gLt ws wd) ls e 0 ls.length ∧ BlkTo (gLt ws wd) e (2 * w) a ∧ BlkFrom (gLt ws wd) e w a, fun a _ _ => (ls.length - a).toNat, ⟨rfl, rfl, by omega, by omega, by omega, Int.dvd_zero _, hq, .zero _ _, hw⟩, ?_⟩, fun hx => ?_⟩
    · rintro a b e ⟨a0, rfl, al, ad, hq, hb, hw⟩
      have el := hq.len
      have b1 := hw a (Int.le_refl _) (by rw [Int.sub_self]; exact Int.dvd_zero _)
      have b2 := hw (a + w) (by omega) ⟨1, by omega⟩
      rw [el] at b1 b2
      refine ⟨fun hx => ?_, fun hx => ⟨by unfold inI64; omega, fun hy => ?_, fun hy => ?_⟩⟩
      · obtain ⟨g1, g2⟩ := seg_spec hs (l := e) (a := a) (b := a + 2 * w) a0 (by omega) (by omega)
        refine ⟨by unfold inI64; omega, ⟨a0, by omega, by omega, by show a + 2 * w ≤ (e.length : Int); omega, okc e el (fun x hx => prt_mem hq hx), fun p q p0 pq qb => b1 p q p0 pq (by omega), fun p q p0 pq qb => b2 p q p0 pq (by omega)⟩, by unfold inI64; omega, by unfold inI64; omega, rfl, rfl, ⟨by omega, by omega, by omega, Int.dvd_add ad (Int.dvd_refl _), hq.trans (g1.wide a0 (by omega)), hb.step g1 g2 a0 (by omega) (by omega) ad, hw.step g1 a0 (by omega)⟩, by dsimp only; omega⟩
      · obtain ⟨g1, g2⟩ := seg_spec hs (l := e) (a := a) (b := ls.length) a0 al (by omega)
        have hq1 := hq.trans (g1.wide a0 (Int.le_refl _))
        have hl1 := hq1.len
        refine ⟨⟨a0, by omega, hy, by show (ls.length : Int) ≤ (e.length : Int); omega, okc e el (fun x hx => prt_mem hq hx), fun p q p0 pq qb => b1 p q p0 pq (by omega), fun p q p0 pq qb => b2 p q p0 pq (by omega)⟩, by unfold inI64; omega, rfl, rfl, ⟨by omega, hq1, ?_⟩, by dsimp only; omega⟩
        rw [Int.mul_comm]
        refine blk_all (a := a) (fun c c0 c1 hc => ?_) ad (by omega) (by omega) (by rw [hl1]; exact g2)
        have cw : c + 2 * w ≤ a := by
          have := Int.le_of_dvd (show 0 < a - c by omega) (Int.dvd_sub ad hc); omega
        exact srt_out g1 c0 (by omega) (.inl cw) (hb c c0 c1 hc)
      · refine ⟨by unfold inI64; omega, rfl, rfl, ⟨by omega, hq, ?_⟩, by dsimp only; omega⟩
        rw [Int.mul_comm]
        exact blk_all hb ad (by omega) (by omega) fun p q p0 pq qb => b1 p q p0 pq (by omega)
    · have := seg_eq hs hq (by rw [← el]; exact blk_srt hw (by omega)) (Int.le_refl _) (by omega) (Int.le_refl _)
      rw [seg_all] at this
      exact this.symm
noncomputable def gu_info : TypeInfo := (Try.prog.info? 35).get (by kernel_rfl)
noncomputable def gu_elem : TypeInfo := (Try.prog.info? 3).get (by kernel_rfl)
theorem gu_k (n : Nat) (h2 : 2 ≤ n) : Go.Lib.swapperK n gu_elem 2 = 5 := by
  have a : gu_elem.hasPointers = false := by kernel_rfl
  have b : gu_elem.bytes = 8 := by kernel_rfl
  have c : (n == 0) = false := by simp; omega
  have d : (n == 1) = false := by simp; omega
  simp [Go.Lib.swapperK, a, b, c, d]
theorem gu_k0 : Go.Lib.swapperK 0 gu_elem 2 = 1 := by kernel_rfl
theorem gu_k1 : Go.Lib.swapperK 1 gu_elem 2 = 2 := by kernel_rfl
theorem gu_find (n : Nat) (h : n ≤ 1) : ∃ f0, Try.prog.funcs.findIdx? (·.name == "internal/reflectlite" ++ ".Swapper$" ++ toString (Go.Lib.swapperK n gu_elem 2)) = some f0 := by
  rcases Nat.lt_or_ge n 1 with q | q
  · obtain rfl : n = 0 := by omega
    exact ⟨129, by rw [gu_k0]; kernel_rfl⟩
  · obtain rfl : n = 1 := by omega
    exact ⟨130, by rw [gu_k1]; kernel_rfl⟩
theorem sort_SliceStable_con : FiOk Try.prog f_sort_SliceStable gu_sls_sf := sls_fok ⟨⟨_, Try.sortStable, rfl, rfl⟩, by kernel_rfl, by kernel_rfl,
  gu_info, gu_elem, 2, by kernel_rfl, by kernel_rfl, by kernel_rfl, by kernel_rfl, fun _ => by kernel_rfl, fun n h => by rw [gu_k n h]; kernel_rfl, gu_find⟩ (by kernel_rfl) sort_stable_func_con (fun _ _ _ _ => rfl) fun _ ls _ h => stab_few (g_swo _ _) h

theorem ref_FuzzyGuess_hC : Cons Try.prog [] := trivial
theorem ref_FuzzyGuess_con : Con Try.prog f_ref_FuzzyGuess ref_FuzzyGuess_ct := ref_FuzzyGuess_vc ref_FuzzyGuess_hC sort_SliceStable_con fun ws w many h => by
  refine ⟨fun c => by rw [guess_a (by omega)]; exact ⟨rfl, rfl⟩, fun c => ?_⟩
  refine ⟨fun x => 0 ≤ x ∧ x ≤ ws.length ∧ ∀ j : Int, 0 ≤ j → j < x → (gt ws j).length ≤ 20, fun x => (ws.length - x).toNat, ⟨rfl, rfl, by omega, by omega, fun j a b => by omega⟩, ?_⟩
  rintro x ⟨x0, x1, x2⟩
  dsimp only
  refine ⟨fun t => ⟨x0, t, fun q => by rw [guess_a (.inr (.inr ⟨_, gt_mem x0 t, by omega⟩))]; exact ⟨rfl, rfl⟩, fun q => ⟨by unfold inI64; omega, rfl, rfl, ⟨by omega, by omega, fun j a b => ?_⟩, by omega⟩⟩, fun t => ?_⟩
  · by_cases e : j = x
    · subst e; omega
    · exact x2 j a (by omega)
  have c3 : ∀ x ∈ ws, x.length ≤ 20 := fun y hy => by
    obtain ⟨j, a, b, rfl⟩ := mem_gt hy
    exact x2 j a (by omega)
  have c : ¬ (80 < ws.length ∨ 20 < w.length ∨ ∃ x ∈ ws, 20 < x.length) := by
    rintro (z | z | ⟨y, hy, z⟩)
    · omega
    · omega
    · have := c3 y hy; omega
  refine ⟨fun d => by rw [guess_b c d]; exact ⟨rfl, rfl⟩, fun d => ?_⟩
  refine ⟨fun x out => 0 ≤ x ∧ x ≤ ws.length ∧ out = upTo x.toNat, fun x _ => (ws.length - x).toNat, ⟨rfl, rfl, by omega, by omega, by simp [upTo]⟩, ?_⟩
  rintro x out ⟨y0, y1, rfl⟩
  dsimp only
  have ul := upTo_len x.toNat
  refine ⟨fun t => ⟨by omega, by unfold inI64; omega, rfl, rfl, ⟨by omega, by omega, ?_⟩, by omega⟩, fun t => ?_⟩
  · rw [show (x + 1).toNat = x.toNat + 1 by omega, upTo_succ, show ((x.toNat : Nat) : Int) = x by omega]
  · have ex : x.toNat = ws.length := by omega
    rw [ex] at ul ⊢
    have sl := stab_len (g_swo ws w) (upTo ws.length)
    refine ⟨by omega, ⟨rfl, by show ((upTo ws.length).length : Int) ≤ 140737488351232; omega, fun y hy => ?_, g_swo ws w⟩, by omega, by omega, by omega, rfl, ?_, ?_⟩
    · have hy : y ∈ upTo ws.length := hy
      obtain ⟨a0, a1⟩ := upTo_mem.1 hy
      exact ⟨a0, a1, c3 _ (gt_mem a0 a1), by show w.length ≤ 20; omega⟩
    · rw [guess_c c d, sl, ul]
      simp
    · rw [guess_c c d]

theorem law_sameInts_hC : Cons Try.prog [] := trivial
theorem law_sameInts_con : Con Try.prog f_law_sameInts law_sameInts_ct := law_sameInts_vc law_sameInts_hC fun a b h => by
  simp only [inI_iff, true_and, and_true, ne_eq, Int.reduceEq, not_false_eq_true, Int.toNat_zero, false_bo, true_bo, fitL] at *
  refine ⟨fun q e => q (by rw [e]), fun q => ⟨fun i => 0 ≤ i ∧ i ≤ a.length ∧ ∀ j : Int, 0 ≤ j → j < i → gt a j = gt b j, fun i => (a.length - i).toNat, ⟨by omega, by omega, fun j h1 h2 => by omega⟩, fun i ⟨h0, h1, h2⟩ => ?_⟩⟩
  dsimp only
  refine ⟨fun r => ⟨h0, r, h0, by omega, fun t e => t (by rw [e]), fun t => ⟨by omega, ⟨by omega, by omega, fun j j0 j1 => ?_⟩, by omega⟩⟩, fun r => ?_⟩
  · by_cases e : j = i
    · rw [e]; exact Classical.byContradiction t
    · exact h2 j j0 (by omega)
  · exact ext_gt (by omega) fun j j0 j1 => h2 j j0 (by omega)

theorem law_FuzzyGuesses_hC : Cons Try.prog [(f_fuzzy_Guess, fuzzy_Guess_ct), (f_ref_FuzzyGuess, ref_FuzzyGuess_ct), (f_law_sameInts, law_sameInts_ct)] := ⟨fuzzy_Guess_con, ref_FuzzyGuess_con, law_sameInts_con, trivial⟩
theorem law_FuzzyGuesses_con : Con Try.prog f_law_FuzzyGuesses law_FuzzyGuesses_ct := law_FuzzyGuesses_vc law_FuzzyGuesses_hC fun ws w many h => by
  have g := guess_few ws w many
  exact ⟨h.1.1, h.1.1, ⟨by show (_ : Nat) ≤ _; omega, by show (_ : Nat) ≤ _; omega⟩, by simp⟩

end Go.Proofs.Ytkemhbclkglmbaa
