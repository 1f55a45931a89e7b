/- The contracts of the functions that the law reaches, and that of the law. Conditions: none. -/
import Derived.Test.YtkemhbclkglmbaaWCursorsTypes
import Derived.Test.YtkemhbclkglmbaaLayT
set_option linter.unusedVariables false
set_option linter.unusedSimpArgs false
set_option maxRecDepth 100000
namespace Go.Proofs.Ytkemhbclkglmbaa
open Go.Vc Go.Fu

theorem cursors_lo_hC : Cons Try.prog [] := trivial
theorem cursors_lo_con : Con Try.prog f_cursors_lo cursors_lo_ct := cursors_lo_vc cursors_lo_hC fun c _ => rfl

theorem cursors_hi_hC : Cons Try.prog [] := trivial
theorem cursors_hi_con : Con Try.prog f_cursors_hi cursors_hi_ct := cursors_hi_vc cursors_hi_hC fun c _ => rfl

theorem cursors_fault_hC : Cons Try.prog [(f_cursors_lo, cursors_lo_ct), (f_cursors_hi, cursors_hi_ct)] := ⟨cursors_lo_con, cursors_hi_con, trivial⟩
theorem cursors_fault_con : Con Try.prog f_cursors_fault cursors_fault_ct := cursors_fault_vc cursors_fault_hC fun size l h => by
  simp only [inI_iff, true_and, and_true, ne_eq, Int.reduceEq, not_false_eq_true, Int.toNat_zero, prod_eta] at *
  refine ⟨fun a => (fault_a (by omega)).symm, fun a => ⟨fun b => (fault_b (by omega) b).symm, fun b => ⟨fun x f => 0 ≤ x ∧ x ≤ l.length ∧ f = size ∧ ∀ j : Int, 0 ≤ j → j < x → 0 ≤ cLo (gt l j) ∧ cHi (gt l j) ≤ size, fun x _ => (l.length - x).toNat, ⟨by omega, by omega, rfl, fun j a b => by omega⟩, ?_⟩⟩⟩
  rintro x f ⟨x0, x1, rfl, hx⟩
  have a' : ¬ 20 < l.length := by omega
  refine ⟨fun t => ⟨x0, t, fun _ => trivial, fun q => ⟨fun _ => (fault_c a' b x0 t q).symm, fun z => absurd x0 z⟩, fun q => ⟨by omega, ⟨by omega, by omega, rfl, fun j j0 j1 => ?_⟩, by dsimp only; omega⟩⟩, fun t => ⟨fun z => by omega, fun _ => (fault_d a' b fun j j0 j1 => hx j j0 (by omega)).symm⟩⟩
  by_cases e : j = x
  · subst e; omega
  · exact hx j j0 (by omega)

theorem cursors_both_hC : Cons Try.prog [(f_cursors_lo, cursors_lo_ct), (f_cursors_hi, cursors_hi_ct)] := ⟨cursors_lo_con, cursors_hi_con, trivial⟩
theorem cursors_both_con : Con Try.prog f_cursors_both cursors_both_ct := cursors_both_vc cursors_both_hC fun a b h => by
  exact ⟨trivial, trivial, trivial, fun c => (both_pos c).symm, fun c => (both_neg c).symm⟩

theorem slices_Clone___api_Cursor_api_Cursor__hC : Cons Try.prog [] := trivial
theorem slices_Clone___api_Cursor_api_Cursor__con : Con Try.prog f_slices_Clone___api_Cursor_api_Cursor_ slices_Clone___api_Cursor_api_Cursor__ct := slices_Clone___api_Cursor_api_Cursor__vc slices_Clone___api_Cursor_api_Cursor__hC fun s hs nl hn => by
  refine ⟨fun c => ?_, fun c => ⟨by simp only [fitM] at hs; omega, rfl⟩⟩
  have := hn c
  exact (List.length_eq_zero_iff.1 (by omega)).symm

theorem cmp_isNaN_int__hC : Cons Try.prog [] := trivial
theorem cmp_isNaN_int__con : Con Try.prog f_cmp_isNaN_int_ cmp_isNaN_int__ct := cmp_isNaN_int__vc cmp_isNaN_int__hC fun x _ => by
  rw [bo_false]; exact fun h => h rfl

theorem cmp_Compare_int__hC : Cons Try.prog [(f_cmp_isNaN_int_, cmp_isNaN_int__ct)] := ⟨cmp_isNaN_int__con, trivial⟩
theorem cmp_Compare_int__con : Con Try.prog f_cmp_Compare_int_ cmp_Compare_int__ct := cmp_Compare_int__vc cmp_Compare_int__hC fun x y _ => by
  refine ⟨trivial, trivial, fun h => absurd h (by decide), fun _ => ⟨fun h => absurd h (by decide), fun _ => ⟨fun h => ?_, fun h => ⟨fun h2 => ?_, fun h2 => ?_⟩⟩⟩⟩ <;> unfold cmpI
  · rw [if_pos h]
  · rw [if_neg h, if_pos h2]
  · rw [if_neg h, if_neg h2]

theorem cmp_Or_int__hC : Cons Try.prog [] := trivial
theorem cmp_Or_int__con : Con Try.prog f_cmp_Or_int_ cmp_Or_int__ct := cmp_Or_int__vc cmp_Or_int__hC fun l h => by
  refine ⟨fun x => 0 ≤ x ∧ x ≤ l.length ∧ orL (l.drop x.toNat) = orL l, fun x => (l.length - x).toNat, ⟨by omega, by omega, rfl⟩, ?_⟩
  rintro x ⟨x0, x1, x2⟩
  have hf : (l.length : Int) ≤ 140737488351232 := by unfold fitL at h; omega
  refine ⟨fun hx => ⟨x0, hx, fun c => ?_, fun c => ⟨by unfold inI64; omega, ⟨by omega, by omega, ?_⟩, by dsimp only; omega⟩⟩, fun hx => ?_⟩
  · rw [← x2, drop_gt x0 hx, orL, if_pos c]
  · rw [drop_gt x0 hx, orL, if_neg c] at x2
    exact x2
  · rw [← x2, List.drop_eq_nil_of_le (by omega)]; rfl

theorem cursors_norm_1_hC : Cons Try.prog [(f_cmp_Compare_int_, cmp_Compare_int__ct), (f_cmp_Or_int_, cmp_Or_int__ct), (f_cursors_lo, cursors_lo_ct), (f_cursors_hi, cursors_hi_ct)] := ⟨cmp_Compare_int__con, cmp_Or_int__con, cursors_lo_con, cursors_hi_con, trivial⟩
theorem cursors_norm_1_con : ConR Try.prog f_cursors_norm_1 cursors_norm_1_cr := cursors_norm_1_vc cursors_norm_1_hC fun a b _ =>
  ⟨trivial, trivial, trivial, trivial, trivial, trivial, by simp [fitL], rfl⟩

theorem slices_insertionSortCmpFunc_api_Cursor__hC : Cons Try.prog [] := trivial
theorem slices_insertionSortCmpFunc_api_Cursor__con : ConZ Try.prog f_slices_insertionSortCmpFunc_api_Cursor_ insCur_cz := slices_insertionSortCmpFunc_api_Cursor__vc slices_insertionSortCmpFunc_api_Cursor__hC cursors_norm_1_con fun ls a b h => by
  obtain ⟨a0, ab, bl, hf, hel, hs⟩ := h
  have hf : (ls.length : Int) ≤ 140737488351232 := hf
  have hs : Swo curLt := hs
  clear hel
  refine ⟨by unfold inI64; omega, fun i d => a + 1 ≤ i ∧ (i ≤ b ∨ i ≤ a + 1) ∧ Part (curLt) ls d a b ∧ SrtIn (curLt) d a i, fun i _ => (b - i).toNat, ⟨by omega, by omega, .refl _ _ _, fun p q p0 pq qa => by omega⟩, ?_⟩
  rintro i d ⟨i0, i1, hp, hsr⟩
  have ld := hp.len
  refine ⟨fun hi => ⟨fun j e => a ≤ j ∧ j ≤ i ∧ Part (curLt) ls e a b ∧ InsIn (curLt) e a i j, fun j _ => j.toNat, ⟨by omega, by omega, hp, hsr.ins⟩, ?_⟩, fun hi => (seg_eq hs hp (fun p q p0 pq qb => hsr p q p0 pq (by omega)) a0 ab bl).symm⟩
  rintro j e ⟨j0, j1, hq, hin⟩
  have le := hq.len
  have go : a < j → curLt (gt e j) (gt e (j - 1)) → _ := fun c q => (⟨by omega, by omega, swp_part hs hq a0 c (by omega) (by omega) q, hin.step hs a0 c j1 (by omega) q⟩ : a ≤ j - 1 ∧ j - 1 ≤ i ∧ Part (curLt) ls (swpL e j (j - 1)) a b ∧ InsIn (curLt) (swpL e j (j - 1)) a i (j - 1))
  refine ⟨fun c => by omega, fun c => by omega, fun c => by unfold inI64; omega, fun c => by omega, fun c => by omega, fun c => ⟨⟨trivial, trivial⟩, fun q => ?_, fun q => ?_⟩, fun c => ⟨fun q => absurd q.1 c, fun _ => ?_⟩⟩
  · exact ⟨by unfold inI64; omega, by unfold inI64; omega, by omega, by omega, by omega, by omega, by omega, by omega, by omega, by rw [List.length_set]; omega, by unfold inI64; omega, go c q.2, by dsimp only; omega⟩
  · exact ⟨by unfold inI64; omega, ⟨by omega, by omega, hq, hin.done hs j0 j1 fun w => q ⟨w.1, w.2⟩⟩, by dsimp only; omega⟩
  · exact ⟨by unfold inI64; omega, ⟨by omega, by omega, hq, hin.done hs j0 j1 fun w => c w.1⟩, by dsimp only; omega⟩

theorem slices_swapRangeCmpFunc_api_Cursor__hC : Cons Try.prog [] := trivial
theorem slices_swapRangeCmpFunc_api_Cursor__con : ConZ Try.prog f_slices_swapRangeCmpFunc_api_Cursor_ swrCur_cz := slices_swapRangeCmpFunc_api_Cursor__vc slices_swapRangeCmpFunc_api_Cursor__hC fun ls a b n h => by
  obtain ⟨a0, b0, n0, h1, h2, hd, hf⟩ := h
  refine ⟨fun i d => 0 ≤ i ∧ i ≤ n ∧ d = swr ls a b i, fun i _ => (n - i).toNat, ⟨by omega, n0, (swr_zero ls a b).symm⟩, ?_⟩
  rintro i d ⟨i0, i1, rfl⟩
  have ll := swr_len ls a b i
  refine ⟨fun hi => ⟨by unfold inI64; omega, by unfold inI64; omega, by unfold inI64; omega, by omega, by omega, by unfold inI64; omega, by omega, by omega, by omega, by omega, by omega, by rw [List.length_set]; omega, by unfold inI64; omega, ⟨by omega, by omega, swr_succ a0 b0 i0 (by omega) (by omega) (by omega)⟩, by dsimp only; omega⟩, fun hi => by rw [show i = n by omega]⟩

theorem slices_rotateCmpFunc_api_Cursor__hC : Cons Try.prog [] := trivial
theorem slices_rotateCmpFunc_api_Cursor__con : ConZ Try.prog f_slices_rotateCmpFunc_api_Cursor_ rotCur_cz := slices_rotateCmpFunc_api_Cursor__vc slices_rotateCmpFunc_api_Cursor__hC slices_swapRangeCmpFunc_api_Cursor__con fun ls a m b h => by
  obtain ⟨a0, am, mb, bl, hf⟩ := h
  refine ⟨by unfold inI64; omega, by unfold inI64; omega, fun i j d => 0 < i ∧ 0 < j ∧ i ≤ m - a ∧ j ≤ b - m ∧ d.length = ls.length ∧ rotL d (m - i) m (m + j) = rotL ls a m b, fun i j _ => (i + j).toNat, ⟨by omega, by omega, by omega, by omega, rfl, by rw [show m - (m - a) = a by omega, show m + (b - m) = b by omega]⟩, ?_⟩
  rintro i j d ⟨i0, j0, i1, j1, dl, e⟩
  refine ⟨fun hne => ⟨fun c => ?_, fun c => ?_⟩, fun hq => ?_⟩
  · refine ⟨by unfold inI64; omega, ⟨by omega, by omega, by omega, by omega, by omega, by omega, by omega⟩, by unfold inI64; omega, ⟨by omega, by omega, by omega, by omega, by rw [swr_len]; exact dl, ?_⟩, by dsimp only; omega⟩
    rw [rot_step1 j0 c (by omega) (by omega)]; exact e
  · refine ⟨by unfold inI64; omega, by unfold inI64; omega, by unfold inI64; omega, ⟨by omega, by omega, by omega, by omega, by omega, by omega, by omega⟩, by unfold inI64; omega, ⟨by omega, by omega, by omega, by omega, by rw [swr_len]; exact dl, ?_⟩, by dsimp only; omega⟩
    rw [rot_step2 i0 (by omega) (by omega) (by omega)]; exact e
  · have hij : i = j := Classical.not_not.1 hq
    subst hij
    refine ⟨by unfold inI64; omega, ⟨by omega, by omega, by omega, by omega, by omega, by omega, by omega⟩, ?_⟩
    rw [rot_last i0 (by omega) (by omega)]; exact e

theorem slices_symMergeCmpFunc_api_Cursor__hC : Cons Try.prog [] := trivial
theorem slices_symMergeCmpFunc_api_Cursor__one (n : Nat) (hr : ConZ Try.prog f_slices_symMergeCmpFunc_api_Cursor_ (symNCur_cz n)) : ConZ Try.prog f_slices_symMergeCmpFunc_api_Cursor_ (symNCur_cz n.succ) := slices_symMergeCmpFunc_api_Cursor__vc slices_symMergeCmpFunc_api_Cursor__hC n slices_rotateCmpFunc_api_Cursor__con hr cursors_norm_1_con fun ls a m b h => by
  obtain ⟨⟨a0, am, mb, bl, ⟨hf, -, hs⟩, sl, sr⟩, hn⟩ := h
  have bl : b ≤ (ls.length : Int) := bl
  have hf : (ls.length : Int) ≤ 140737488351232 := hf
  have hs : Swo curLt := hs
  have sl : SrtIn curLt ls a m := sl
  have sr : SrtIn curLt ls m b := sr
  have okc : ∀ d : List Cur, d.length = ls.length → okAll cur_q () d := fun d hd => ⟨by show (d.length : Int) ≤ _; omega, fun _ _ => trivial, hs⟩
  refine ⟨by unfold inI64; omega, fun h1 => ?_, fun h1 => ⟨by unfold inI64; omega, fun h2 => ?_, fun h2 => ?_⟩⟩
  · have em : m = a + 1 := by omega
    subst em
    refine ⟨fun i j => a + 1 ≤ i ∧ i ≤ j ∧ j ≤ b ∧ (∀ q : Int, a + 1 ≤ q → q < i → curLt (gt ls q) (gt ls a)) ∧ ∀ q : Int, j ≤ q → q < b → ¬ curLt (gt ls q) (gt ls a), fun i j => (j - i).toNat, ⟨rfl, by omega, by omega, by omega, fun q _ _ => by omega, fun q _ _ => by omega⟩, ?_⟩
    rintro i j ⟨i0, ij, jb, lo, hi⟩
    rw [half64 (by omega) (by omega)]
    refine ⟨fun hx => ⟨by unfold inI64; omega, by decide, by unfold inI64; omega, by omega, by omega, by omega, by omega, ⟨trivial, trivial⟩, fun c => ?_, fun c => ?_⟩, fun hx => ?_⟩
    · refine ⟨by unfold inI64; omega, rfl, ⟨by omega, by omega, jb, fun q q0 q1 => ?_, hi⟩, by dsimp only; omega⟩
      by_cases e : q = (i + j) / 2
      · rw [e]; exact c
      · refine Classical.not_not.1 fun w => ?_
        exact hs.ntrans _ _ _ (sr q ((i + j) / 2) q0 (by omega) (by omega)) w c
    · refine ⟨rfl, ⟨i0, by omega, by omega, lo, fun q q0 q1 => ?_⟩, by dsimp only; omega⟩
      by_cases e : q = (i + j) / 2
      · rw [e]; exact c
      · exact hs.ntrans _ _ _ (sr ((i + j) / 2) q (by omega) (by omega) q1) c
    · have ej : j = i := by omega
      subst ej
      refine ⟨fun k d => a ≤ k ∧ k ≤ j - 1 ∧ Part curLt ls d a b ∧ ShL ls d a k, fun k _ => (j - k).toNat, ⟨by omega, by omega, .refl _ _ _, rfl, rfl, fun p _ _ => by omega, fun p _ _ => rfl⟩, ?_⟩
      rintro k d ⟨k0, k1, hp, hh⟩
      have dl := hp.len
      refine ⟨by unfold inI64; omega, fun hk => ?_, fun hk => ?_⟩
      · have q : curLt (gt d (k + 1)) (gt d (k + 1 - 1)) := by
          rw [show k + 1 - 1 = k by omega, hh.at_, hh.hi _ (by omega) (by omega)]
          exact lo _ (by omega) (by omega)
        have p2 := swp_part hs hp a0 (show a < k + 1 by omega) (by omega) (by omega) q
        rw [show k + 1 - 1 = k by omega, swpL_comm (by omega) (by omega) (by omega) (by omega)] at p2
        exact ⟨by unfold inI64; omega, by unfold inI64; omega, by omega, by omega, by omega, by omega, by omega, by omega, by omega, by rw [List.length_set]; omega, by unfold inI64; omega, ⟨by omega, by omega, p2, hh.step a0 k0 (by omega)⟩, by dsimp only; omega⟩
      · have ek : k = j - 1 := by omega
        subst ek
        exact (seg_eq hs hp (hh.srt hs a0 bl i0 jb sr lo hi) a0 (by omega) bl).symm
  · have em : b = m + 1 := by omega
    subst em
    refine ⟨fun i j => a ≤ i ∧ i ≤ j ∧ j ≤ m ∧ (∀ q : Int, a ≤ q → q < i → ¬ curLt (gt ls m) (gt ls q)) ∧ ∀ q : Int, j ≤ q → q < m → curLt (gt ls m) (gt ls q), fun i j => (j - i).toNat, ⟨rfl, by omega, by omega, by omega, fun q _ _ => by omega, fun q _ _ => by omega⟩, ?_⟩
    rintro i j ⟨i0, ij, jb, lo, hi⟩
    rw [half64 (by omega) (by omega)]
    refine ⟨fun hx => ⟨by unfold inI64; omega, by decide, by unfold inI64; omega, by omega, by omega, by omega, by omega, ⟨trivial, trivial⟩, fun c => ?_, fun c => ?_⟩, fun hx => ?_⟩
    · refine ⟨by unfold inI64; omega, rfl, ⟨by omega, by omega, jb, fun q q0 q1 => ?_, hi⟩, by dsimp only; omega⟩
      by_cases e : q = (i + j) / 2
      · rw [e]; exact c
      · exact hs.ntrans _ _ _ c (sl q ((i + j) / 2) q0 (by omega) (by omega))
    · refine ⟨rfl, ⟨i0, by omega, by omega, lo, fun q q0 q1 => ?_⟩, by dsimp only; omega⟩
      have c := Classical.not_not.1 c
      by_cases e : q = (i + j) / 2
      · rw [e]; exact c
      · refine Classical.not_not.1 fun w => ?_
        exact hs.ntrans _ _ _ w (sl ((i + j) / 2) q (by omega) (by omega) q1) c
    · have ej : j = i := by omega
      subst ej
      refine ⟨fun k d => j ≤ k ∧ k ≤ m ∧ Part curLt ls d a (m + 1) ∧ ShR ls d m k, fun k _ => k.toNat, ⟨by omega, by omega, .refl _ _ _, rfl, rfl, fun p _ _ => rfl, fun p _ _ => by omega⟩, ?_⟩
      rintro k d ⟨k0, k1, hp, hh⟩
      have dl := hp.len
      refine ⟨fun hk => ?_, fun hk => ?_⟩
      · have q : curLt (gt d k) (gt d (k - 1)) := by
          rw [hh.at_, hh.lo _ (by omega) (by omega)]
          exact hi _ (by omega) (by omega)
        exact ⟨by unfold inI64; omega, by unfold inI64; omega, by omega, by omega, by omega, by omega, by omega, by omega, by omega, by rw [List.length_set]; omega, by unfold inI64; omega, ⟨by omega, by omega, swp_part hs hp a0 (by omega) (by omega) bl q, hh.step (by omega) k1 (by omega)⟩, by dsimp only; omega⟩
      · have ek : k = j := by omega
        subst ek
        exact (seg_eq hs hp (hh.srt hs a0 (by omega) i0 k1 sl hi lo) a0 (by omega) bl).symm
  · rw [half64 (by omega) (by omega)]
    have hs0 : iteP ((a + b) / 2 < m) ((a + b) / 2 + m - b) a = if (a + b) / 2 < m then (a + b) / 2 + m - b else a := iteP_if
    have hr0 : iteP ((a + b) / 2 < m) ((a + b) / 2) m = if (a + b) / 2 < m then (a + b) / 2 else m := iteP_if
    generalize iteP ((a + b) / 2 < m) ((a + b) / 2 + m - b) a = s0 at *
    generalize iteP ((a + b) / 2 < m) ((a + b) / 2) m = r0 at *
    have hmid : 2 * ((a + b) / 2) ≤ a + b ∧ a + b ≤ 2 * ((a + b) / 2) + 1 := by omega
    generalize (a + b) / 2 = mid at *
    have hsr : (mid < m ∧ s0 = mid + m - b ∧ r0 = mid) ∨ (¬ mid < m ∧ s0 = a ∧ r0 = m) := by
      by_cases c : mid < m
      · rw [if_pos c] at hs0 hr0; exact .inl ⟨c, hs0, hr0⟩
      · rw [if_neg c] at hs0 hr0; exact .inr ⟨c, hs0, hr0⟩
    clear hs0 hr0
    refine ⟨by unfold inI64; omega, by decide, by unfold inI64; omega, by unfold inI64; omega, fun _ => by unfold inI64; omega, by unfold inI64; omega, fun st r => s0 ≤ st ∧ st ≤ r ∧ r ≤ r0 ∧ (s0 < st → ¬ curLt (gt ls (mid + m - 1 - (st - 1))) (gt ls (st - 1))) ∧ (r < r0 → curLt (gt ls (mid + m - 1 - r)) (gt ls r)), fun st r => (r - st).toNat, ⟨rfl, by omega, by omega, by omega, fun _ => by omega, fun _ => by omega⟩, ?_⟩
    rintro st r ⟨p0, p1, p2, p3, p4⟩
    refine ⟨fun hx => ?_, fun hx => ?_⟩
    · rw [half64 (by omega) (by omega)]
      have hm2 : 2 * ((st + r) / 2) ≤ st + r ∧ st + r ≤ 2 * ((st + r) / 2) + 1 := by omega
      generalize (st + r) / 2 = c at *
      refine ⟨by unfold inI64; omega, by decide, by unfold inI64; omega, by unfold inI64; omega, by omega, by omega, by omega, by omega, ⟨trivial, trivial⟩, fun q => ⟨by unfold inI64; omega, rfl, ⟨by omega, by omega, p2, fun _ => ?_, p4⟩, by dsimp only; omega⟩, fun q => ⟨rfl, ⟨p0, by omega, by omega, p3, fun _ => Classical.not_not.1 q⟩, by dsimp only; omega⟩⟩
      rw [show c + 1 - 1 = c by omega]; exact q
    · have er : r = st := by omega
      subst er
      have ok : SymOk curLt ls a m b mid r (mid + m - r) := ⟨a0, am, mb, bl, rfl, by omega, by omega, by omega, by omega, by omega, by omega, sl, sr, fun c1 c2 => by
          have := p3 (by omega)
          rwa [show mid + m - 1 - (r - 1) = mid + m - r by omega] at this, fun c1 c2 => by
          have := p4 (by omega)
          rwa [show mid + m - 1 - r = mid + m - r - 1 by omega] at this⟩
      have g1 := ok.s0; have g2 := ok.s1; have g3 := ok.s2; have g4 := ok.e0; have g5 := ok.e1; have g6 := ok.e2
      have len1 := rotL_len ls r m (mid + m - r)
      -- what the calls are given, and what comes of them
      have key : ∀ d1 : List Cur, d1 = rotL ls r m (mid + m - r) → (a < r ∧ r < mid → (symPre cur_q () d1 a r mid ∧ mid - a < (↑n : Int)) ∧ (mid < mid + m - r ∧ mid + m - r < b → (symPre cur_q () (seg curLt d1 a mid) mid (mid + m - r) b ∧ b - mid < (↑n : Int)) ∧ seg curLt (seg curLt d1 a mid) mid b = seg curLt ls a b) ∧ (¬ (mid < mid + m - r ∧ mid + m - r < b) → seg curLt d1 a mid = seg curLt ls a b)) ∧
          (¬ (a < r ∧ r < mid) → (mid < mid + m - r ∧ mid + m - r < b → (symPre cur_q () d1 mid (mid + m - r) b ∧ b - mid < (↑n : Int)) ∧ seg curLt d1 mid b = seg curLt ls a b) ∧ (¬ (mid < mid + m - r ∧ mid + m - r < b) → d1 = seg curLt ls a b)) := fun d1 hd => by
        subst hd
        obtain ⟨u1, u2⟩ := seg_spec hs (l := rotL ls r m (mid + m - r)) (a := a) (b := mid) a0 (by omega) (by omega)
        have ul := u1.len
        have right2 : ∀ {d : List Cur}, Part curLt (rotL ls r m (mid + m - r)) d a mid → SrtIn curLt d mid (mid + m - r) ∧ SrtIn curLt d (mid + m - r) b ∧ (¬ (mid < mid + m - r ∧ mid + m - r < b) → SrtIn curLt d mid b) := fun {d} hd =>
          ⟨srt_out hd (by omega) (by omega) (.inr (Int.le_refl _)) ok.srt3, srt_out hd (by omega) (by omega) (.inr (by omega)) ok.srt4, fun c => srt_out hd (by omega) (by omega) (.inr (Int.le_refl _)) (ok.right c)⟩
        refine ⟨fun c => ⟨⟨⟨a0, c.1, c.2, by show mid ≤ ((rotL ls r m (mid + m - r)).length : Int); omega, okc _ len1, ok.srt1, ok.srt2⟩, by omega⟩, fun c2 => ?_, fun c2 => ?_⟩, fun c => ⟨fun c2 => ?_, fun c2 => ?_⟩⟩
        · obtain ⟨w1, w2, _⟩ := right2 u1
          refine ⟨⟨⟨by omega, c2.1, c2.2, Int.le_trans bl (Int.ofNat_le.2 (Nat.le_of_eq (ul.trans len1).symm)), okc _ (ul.trans len1), w1, w2⟩, by omega⟩, ?_⟩
          obtain ⟨v1, v2⟩ := seg_spec hs (l := seg curLt (rotL ls r m (mid + m - r)) a mid) (a := mid) (b := b) (by omega) (by omega) (by omega)
          exact ok.fin hs u1 u2 v1 v2
        · exact ok.fin hs u1 u2 (.refl _ _ _) ((right2 u1).2.2 c2)
        · obtain ⟨w1, w2, _⟩ := right2 (.refl _ _ _)
          refine ⟨⟨⟨by omega, c2.1, c2.2, by show b ≤ ((rotL ls r m (mid + m - r)).length : Int); omega, okc _ len1, w1, w2⟩, by omega⟩, ?_⟩
          obtain ⟨v1, v2⟩ := seg_spec hs (l := rotL ls r m (mid + m - r)) (a := mid) (b := b) (by omega) (by omega) (by omega)
          exact ok.fin hs (.refl _ _ _) (ok.left c) v1 v2
        · exact ok.fin hs (.refl _ _ _) (ok.left c) (.refl _ _ _) ((right2 (.refl _ _ _)).2.2 c2)
      refine ⟨by unfold inI64; omega, fun c => ⟨⟨by omega, c.1, c.2, by omega, hf⟩, key _ rfl⟩, fun c => key ls (rot_id (by omega) g2 g4).symm⟩
theorem slices_symMergeCmpFunc_api_Cursor__all : ∀ n : Nat, ConZ Try.prog f_slices_symMergeCmpFunc_api_Cursor_ (symNCur_cz n)
  | 0 => ⟨trivial, by kernel_rfl, symNCur_cz_dec 0, fun k ls (a : Int × Int × Int) h => by
    obtain ⟨⟨_, h1, h2, _⟩, h3⟩ := h
    have h1 : a.1 < a.2.1 := h1
    have h2 : a.2.1 < a.2.2 := h2
    have h3 : a.2.2 - a.1 < ((0 : Nat) : Int) := h3
    omega⟩
  | n + 1 => slices_symMergeCmpFunc_api_Cursor__one n (slices_symMergeCmpFunc_api_Cursor__all n)
theorem slices_symMergeCmpFunc_api_Cursor__con : ConZ Try.prog f_slices_symMergeCmpFunc_api_Cursor_ symCur_cz := ⟨trivial, by kernel_rfl, symCur_cz_dec, fun k ls (a : Int × Int × Int) h => (slices_symMergeCmpFunc_api_Cursor__all (a.2.2 - a.1 + 1).toNat).2.2.2 k ls a ⟨h, by
  have h1 : a.1 < a.2.1 := h.2.1
  have h2 : a.2.1 < a.2.2 := h.2.2.1
  show a.2.2 - a.1 < (((a.2.2 - a.1 + 1).toNat : Nat) : Int)
  omega⟩⟩

theorem slices_stableCmpFunc_api_Cursor__hC : Cons Try.prog [] := trivial
theorem slices_stableCmpFunc_api_Cursor__con : ConZ Try.prog f_slices_stableCmpFunc_api_Cursor_ stbCur_cz := slices_stableCmpFunc_api_Cursor__vc slices_stableCmpFunc_api_Cursor__hC slices_insertionSortCmpFunc_api_Cursor__con slices_symMergeCmpFunc_api_Cursor__con fun ls n h => by
  obtain ⟨hn, hf, -, hs⟩ := h
  have hn : n = (ls.length : Int) := hn
  have hf : (ls.length : Int) ≤ 140737488351232 := hf
  have hs : Swo curLt := hs
  subst hn
  have okc : ∀ d : List Cur, d.length = ls.length → okAll cur_q () d := fun d hd => ⟨by show (d.length : Int) ≤ _; omega, fun _ _ => trivial, hs⟩
  refine ⟨fun a b d => 0 ≤ a ∧ b = a + 20 ∧ a ≤ ls.length ∧ (20 : Int) ∣ a ∧ Part curLt ls d 0 ls.length ∧ BlkTo curLt d 20 a, fun a _ _ => (ls.length - a).toNat, ⟨by omega, by omega, by omega, by omega, .refl _ _ _, .zero _ _⟩, ?_⟩
  rintro a b d ⟨a0, rfl, al, ad, hp, hb⟩
  have dl := hp.len
  refine ⟨fun hx => ?_, fun hx => ?_⟩
  · obtain ⟨g1, g2⟩ := seg_spec hs (l := d) (a := a) (b := a + 20) a0 (by omega) (by omega)
    exact ⟨⟨a0, by omega, by omega, okc d dl⟩, by unfold inI64; omega, ⟨by omega, rfl, by omega, by omega, hp.trans (g1.wide a0 (by omega)), hb.step g1 g2 a0 (by omega) (by omega) ad⟩, by dsimp only; omega⟩
  · obtain ⟨g1, g2⟩ := seg_spec hs (l := d) (a := a) (b := ls.length) a0 al (by omega)
    have hp1 := hp.trans (g1.wide a0 (Int.le_refl _))
    have hl1 := hp1.len
    refine ⟨⟨a0, al, by omega, okc d dl⟩, fun w e => 20 ≤ w ∧ Part curLt ls e 0 ls.length ∧ BlkFrom curLt e w 0, fun w _ => (ls.length - w).toNat, ⟨by omega, hp1, ?_⟩, ?_⟩
    · refine blk_all (a := a) (fun c c0 c1 hc => ?_) ad (by omega) (by omega) (by rw [hl1]; exact g2)
      have cw : c + 20 ≤ a := by
        have := Int.le_of_dvd (show 0 < a - c by omega) (Int.dvd_sub ad hc); omega
      exact srt_out g1 c0 (by omega) (.inl cw) (hb c c0 c1 hc)
    rintro w e ⟨w0, hq, hw⟩
    have el := hq.len
    refine ⟨fun hx => ⟨by unfold inI64; omega, fun a b e => 0 ≤ a ∧ b = a + 2 * w ∧ a ≤ ls.length ∧ 2 * w ∣ a ∧ Part curLt ls e 0 ls.length ∧ BlkTo curLt e (2 * w) a ∧ BlkFrom curLt e w a, fun a _ _ => (ls.length - a).toNat, ⟨by omega, by omega, by omega, Int.dvd_zero _, hq, .zero _ _, hw⟩, ?_⟩, fun hx => ?_⟩
    · rintro a b e ⟨a0, rfl, al, ad, hq, hb, hw⟩
      have el := hq.len
      have b1 := hw a (Int.le_refl _) (by rw [Int.sub_self]; exact Int.dvd_zero _)
      have b2 := hw (a + w) (by omega) ⟨1, by omega⟩
      rw [el] at b1 b2
      refine ⟨fun hx => ?_, fun hx => ⟨by unfold inI64; omega, fun hy => ?_, fun hy => ?_⟩⟩
      · obtain ⟨g1, g2⟩ := seg_spec hs (l := e) (a := a) (b := a + 2 * w) a0 (by omega) (by omega)
        refine ⟨by unfold inI64; omega, ⟨a0, by omega, by omega, by show a + 2 * w ≤ (e.length : Int); omega, okc e el, fun p q p0 pq qb => b1 p q p0 pq (by omega), fun p q p0 pq qb => b2 p q p0 pq (by omega)⟩, by unfold inI64; omega, by unfold inI64; omega, ⟨by omega, by omega, by omega, Int.dvd_add ad (Int.dvd_refl _), hq.trans (g1.wide a0 (by omega)), hb.step g1 g2 a0 (by omega) (by omega) ad, hw.step g1 a0 (by omega)⟩, by dsimp only; omega⟩
      · obtain ⟨g1, g2⟩ := seg_spec hs (l := e) (a := a) (b := ls.length) a0 al (by omega)
        have hq1 := hq.trans (g1.wide a0 (Int.le_refl _))
        have hl1 := hq1.len
        refine ⟨⟨a0, by omega, hy, by show (ls.length : Int) ≤ (e.length : Int); omega, okc e el, fun p q p0 pq qb => b1 p q p0 pq (by omega), fun p q p0 pq qb => b2 p q p0 pq (by omega)⟩, by unfold inI64; omega, ⟨by omega, hq1, ?_⟩, by dsimp only; omega⟩
        rw [Int.mul_comm]
        refine blk_all (a := a) (fun c c0 c1 hc => ?_) ad (by omega) (by omega) (by rw [hl1]; exact g2)
        have cw : c + 2 * w ≤ a := by
          have := Int.le_of_dvd (show 0 < a - c by omega) (Int.dvd_sub ad hc); omega
        exact srt_out g1 c0 (by omega) (.inl cw) (hb c c0 c1 hc)
      · refine ⟨by unfold inI64; omega, ⟨by omega, hq, ?_⟩, by dsimp only; omega⟩
        rw [Int.mul_comm]
        exact blk_all hb ad (by omega) (by omega) fun p q p0 pq qb => b1 p q p0 pq (by omega)
    · have := seg_eq hs hq (by rw [← el]; exact blk_srt hw (by omega)) (Int.le_refl _) (by omega) (Int.le_refl _)
      rw [seg_all] at this
      exact this.symm

theorem slices_SortStableFunc___api_Cursor_api_Cursor__hC : Cons Try.prog [] := trivial
theorem slices_SortStableFunc___api_Cursor_api_Cursor__con : ConZ Try.prog f_slices_SortStableFunc___api_Cursor_api_Cursor_ sstCur_cz := slices_SortStableFunc___api_Cursor_api_Cursor__vc slices_SortStableFunc___api_Cursor_api_Cursor__hC slices_stableCmpFunc_api_Cursor__con fun ls h => ⟨⟨rfl, h⟩, rfl⟩

theorem cursors_norm_hC : Cons Try.prog [(f_cursors_lo, cursors_lo_ct), (f_cursors_hi, cursors_hi_ct), (f_cursors_both, cursors_both_ct), (f_slices_Clone___api_Cursor_api_Cursor_, slices_Clone___api_Cursor_api_Cursor__ct)] := ⟨cursors_lo_con, cursors_hi_con, cursors_both_con, slices_Clone___api_Cursor_api_Cursor__con, trivial⟩
theorem cursors_norm_con : Con Try.prog f_cursors_norm cursors_norm_ct := cursors_norm_vc cursors_norm_hC slices_SortStableFunc___api_Cursor_api_Cursor__con fun l h => by
  have hl : l.length ≤ 20 := h
  have sl := stab_len cur_swo l
  simp only [prod_eta]
  refine ⟨by simp only [fitM]; omega, ⟨by show (l.length : Int) ≤ 140737488351232; omega, fun _ _ => trivial, cur_swo⟩, fun x out => 0 ≤ x ∧ x ≤ l.length ∧ out.length ≤ x ∧ out = curFold ((stab curLt l).take x.toNat), fun x _ => (l.length - x).toNat, ⟨trivial, by omega, by omega, by simp, rfl⟩, ?_⟩
  rintro x out ⟨x0, x1, ol, e⟩
  have add : x < (stab curLt l).length → ¬ (0 < out.length ∧ curTouch (gt out ((out.length : Int) - 1)) (gt (stab curLt l) x)) → out ++ [gt (stab curLt l) x] = curFold ((stab curLt l).take (x + 1).toNat) := fun t q => by
    rw [fold_succ x0 t, ← e, step_neg q]
  refine ⟨fun t => ⟨x0, t, fun p => ⟨by unfold inI64; omega, by omega, by omega, trivial, trivial, fun _ => trivial, fun _ => trivial, trivial, trivial, fun _ => trivial, fun _ => trivial, fun q => ?_, fun q => ?_⟩, fun p => ?_⟩, fun t => ?_⟩
  · refine ⟨by unfold inI64; omega, trivial, by omega, by omega, by unfold inI64; omega, trivial, ⟨by omega, by omega, by rw [List.length_set]; omega, ?_⟩, by dsimp only; omega⟩
    rw [fold_succ x0 t, ← e, step_pos (by omega) q, show ((out.length : Int) - 1).toNat = out.length - 1 by omega]
  · exact ⟨by omega, by unfold inI64; omega, trivial, ⟨by omega, by omega, by simp; omega, add t fun w => q w.2⟩, by dsimp only; omega⟩
  · exact ⟨by omega, by unfold inI64; omega, trivial, ⟨by omega, by omega, by simp; omega, add t fun w => p (by omega)⟩, by dsimp only; omega⟩
  · rw [e, List.take_of_length_le (by omega)]; rfl

theorem cursors_Type_hC : Cons Try.prog [(f_cursors_fault, cursors_fault_ct), (f_cursors_norm, cursors_norm_ct), (f_cursors_lo, cursors_lo_ct), (f_cursors_hi, cursors_hi_ct)] := ⟨cursors_fault_con, cursors_norm_con, cursors_lo_con, cursors_hi_con, trivial⟩
theorem cursors_Type_con : Con Try.prog f_cursors_Type cursors_Type_ct := cursors_Type_vc cursors_Type_hC fun text l put ⟨hs, hl⟩ => by
  simp only [inI_iff, true_and, and_true, ne_eq, Int.reduceEq, not_false_eq_true, Int.toNat_zero, prod_eta] at *
  refine ⟨by omega, fun c => by rw [type_a c]; exact ⟨rfl, rfl, rfl⟩, fun c => ?_⟩
  have c : cursorsFault text.length l = 0 := Classical.not_not.1 c
  obtain ⟨c1, c2, c3, c4⟩ := fault_ok c
  have ap : Apart text.length (curNorm l) := apart_norm c4
  have nl := norm_len l
  refine ⟨c1, fun made at_ x out => 0 ≤ x ∧ x ≤ (curNorm l).length ∧ (made, at_, out) = tMade text put ((curNorm l).take x.toNat) ∧ made.length ≤ 600, fun _ _ x _ => ((curNorm l).length - x).toNat, ⟨by omega, by omega, by simp [tMade], by simp⟩, ?_⟩
  rintro made at_ x out ⟨h0, h1, h2, h3⟩
  dsimp only
  have aa := apart_at (put := put) ap h0 h1
  rw [← h2] at aa
  simp only at aa
  refine ⟨fun t => ?_, fun t => ?_⟩
  · have b := aa.2.2 t
    have d := ap x h0 t
    have m := lo_hi (gt (curNorm l) x)
    have e := tmade_succ (text := text) (put := put) h0 t
    rw [← h2] at e
    simp only [tStep] at e
    have lt : (List.drop at_.toNat (List.take (cLo (gt (curNorm l) x)).toNat text)).length ≤ 600 := by
      simp only [List.length_drop, List.length_take]; omega
    refine ⟨h0, t, aa.1, b, by omega, by omega, by rw [List.length_append]; omega, fun q => ?_, fun q => ?_⟩
    · have := twhole_big (text := text) (put := put) (l := curNorm l) (k := (x + 1).toNat) (by rw [e]; simp only; omega)
      rw [type_b c this]; exact ⟨rfl, rfl, rfl⟩
    · have ho : out.length = x.toNat := by
        have := tmade_out (text := text) (put := put) (l := curNorm l) x.toNat (by omega)
        rw [← h2] at this; exact this
      exact ⟨by omega, by omega, ⟨by omega, by omega, e.symm, by omega⟩, by omega⟩
  · have e : (made, at_, out) = tMade text put (curNorm l) := by rw [h2, List.take_of_length_le (by omega)]
    have w : made ++ List.drop at_.toNat (List.take (text.length : Int).toNat text) = tWhole text put (curNorm l) := by
      unfold tWhole; rw [← e]; simp
    rw [w]
    refine ⟨aa.1, aa.2.1, by omega, by simp only [List.length_drop, List.length_take]; omega, fun q => ?_, fun q => ?_⟩
    · rw [type_b c (by omega)]; exact ⟨rfl, rfl, rfl⟩
    · rw [type_c c (by omega), ← e]; exact ⟨rfl, rfl, rfl⟩

theorem ref_cursorsFault_hC : Cons Try.prog [] := trivial
theorem ref_cursorsFault_con : Con Try.prog f_ref_cursorsFault ref_cursorsFault_ct := ref_cursorsFault_vc ref_cursorsFault_hC fun size l h => by
  simp only [inI_iff, true_and, and_true, ne_eq, Int.reduceEq, not_false_eq_true, Int.toNat_zero, prod_eta] at *
  refine ⟨fun a => (fault_a (by omega)).symm, fun a => ⟨fun b => (fault_b (by omega) b).symm, fun b => ⟨fun x => 0 ≤ x ∧ x ≤ l.length ∧ ∀ j : Int, 0 ≤ j → j < x → 0 ≤ cLo (gt l j) ∧ cHi (gt l j) ≤ size, fun x => (l.length - x).toNat, ⟨by omega, by omega, fun j a b => by omega⟩, ?_⟩⟩⟩
  rintro x ⟨x0, x1, hx⟩
  have a' : ¬ 20 < l.length := by omega
  refine ⟨fun t => ⟨x0, t, fun q => (fault_c a' b x0 t (by unfold cLo cHi; omega)).symm, fun q => ⟨by omega, ⟨by omega, by omega, fun j j0 j1 => ?_⟩, by dsimp only; omega⟩⟩, fun t => (fault_d a' b fun j j0 j1 => hx j j0 (by omega)).symm⟩
  by_cases e : j = x
  · subst e; unfold cLo cHi; omega
  · exact hx j j0 (by omega)

theorem ref_cursorsNormed_1_hC : Cons Try.prog [] := trivial
theorem ref_cursorsNormed_1_con : ConR Try.prog f_ref_cursorsNormed_1 ref_cursorsNormed_1_cr := ref_cursorsNormed_1_vc ref_cursorsNormed_1_hC fun ls i k ⟨h1, h2, h3, h4, _⟩ =>
  ⟨h1, h2, h3, h4, fun _ => h1, fun _ => h2, fun _ => h3, fun _ => h4, fun _ => h1, fun _ => h2, fun _ => h3, fun _ => h4, rfl⟩
theorem internal_reflectlite_Swapper_9_con : ConZ Try.prog f_internal_reflectlite_Swapper_9 swpH_cz := swpD_con (sw_con (g := false) (ag := true) (by kernel_rfl) rfl ⟨⟨(Try.prog.info? 120).get (by kernel_rfl), by kernel_rfl, by kernel_rfl⟩, fun _ => by kernel_rfl, fun h => nomatch h⟩ (by decide)
  fun args W => run_callFunc_extern Try.func137 (by kernel_rfl) (by kernel_rfl) (by kernel_rfl) (e := Go.Extern.ReflectliteSwapper.swap false) (by kernel_rfl) args W)

theorem sort_insertionSort_func_hC : Cons Try.prog [] := trivial
theorem sort_insertionSort_func_con : ConZ Try.prog f_sort_insertionSort_func insH_cz := sort_insertionSort_func_vc sort_insertionSort_func_hC ref_cursorsNormed_1_con internal_reflectlite_Swapper_9_con fun ls a b h => by
  obtain ⟨a0, ab, bl, hf, hel, hs⟩ := h
  have hf : (ls.length : Int) ≤ 140737488351232 := hf
  have hs : Swo heldLt := hs
  clear hel
  refine ⟨by unfold inI64; omega, fun i d => a + 1 ≤ i ∧ (i ≤ b ∨ i ≤ a + 1) ∧ Part heldLt ls d a b ∧ SrtIn heldLt d a i, fun i _ => (b - i).toNat, ⟨by omega, by omega, .refl _ _ _, fun p q p0 pq qa => by omega⟩, ?_⟩
  rintro i d ⟨i0, i1, hp, hsr⟩
  have ld := hp.len
  refine ⟨fun hi => ⟨fun j e => a ≤ j ∧ j ≤ i ∧ Part heldLt ls e a b ∧ InsIn heldLt e a i j, fun j _ => j.toNat, ⟨by omega, by omega, hp, hsr.ins⟩, ?_⟩, fun hi => (seg_eq hs hp (fun p q p0 pq qb => hsr p q p0 pq (by omega)) a0 ab bl).symm⟩
  rintro j e ⟨j0, j1, hq, hin⟩
  have le := hq.len
  have go : a < j → heldLt (gt e j) (gt e (j - 1)) → _ := fun c q => (⟨by omega, by omega, swp_part hs hq a0 c (by omega) (by omega) q, hin.step hs a0 c j1 (by omega) q⟩ : a ≤ j - 1 ∧ j - 1 ≤ i ∧ Part heldLt ls (swpL e j (j - 1)) a b ∧ InsIn heldLt (swpL e j (j - 1)) a i (j - 1))
  refine ⟨fun c => by unfold inI64; omega, fun c => ⟨⟨by omega, by omega, by omega, by omega, by omega⟩, fun q => ?_, fun q => ?_⟩, fun c => ?_⟩
  · have q2 := bo_true.1 q.2
    exact ⟨by unfold inI64; omega, ⟨by omega, by omega, by omega, by omega⟩, by unfold inI64; omega, go c q2, by dsimp only; omega⟩
  · exact ⟨by unfold inI64; omega, ⟨by omega, by omega, hq, hin.done hs j0 j1 fun w => q ⟨w.1, bo_true.2 w.2⟩⟩, by dsimp only; omega⟩
  · exact ⟨by unfold inI64; omega, ⟨by omega, by omega, hq, hin.done hs j0 j1 fun w => c w.1⟩, by dsimp only; omega⟩

theorem sort_swapRange_func_hC : Cons Try.prog [] := trivial
theorem sort_swapRange_func_con : ConZ Try.prog f_sort_swapRange_func swrH_cz := sort_swapRange_func_vc sort_swapRange_func_hC internal_reflectlite_Swapper_9_con fun ls a b n h => by
  obtain ⟨a0, b0, n0, h1, h2, hd, hf⟩ := h
  refine ⟨fun i d => 0 ≤ i ∧ i ≤ n ∧ d = swr ls a b i, fun i _ => (n - i).toNat, ⟨by omega, n0, (swr_zero ls a b).symm⟩, ?_⟩
  rintro i d ⟨i0, i1, rfl⟩
  have ll := swr_len ls a b i
  refine ⟨fun hi => ⟨by unfold inI64; omega, by unfold inI64; omega, ⟨by omega, by omega, by omega, by omega⟩, by unfold inI64; omega, ⟨by omega, by omega, swr_succ a0 b0 i0 (by omega) (by omega) (by omega)⟩, by dsimp only; omega⟩, fun hi => by rw [show i = n by omega]⟩

theorem sort_rotate_func_hC : Cons Try.prog [] := trivial
theorem sort_rotate_func_con : ConZ Try.prog f_sort_rotate_func rotH_cz := sort_rotate_func_vc sort_rotate_func_hC sort_swapRange_func_con fun ls a m b h => by
  obtain ⟨a0, am, mb, bl, hf⟩ := h
  refine ⟨by unfold inI64; omega, by unfold inI64; omega, fun i j d => 0 < i ∧ 0 < j ∧ i ≤ m - a ∧ j ≤ b - m ∧ d.length = ls.length ∧ rotL d (m - i) m (m + j) = rotL ls a m b, fun i j _ => (i + j).toNat, ⟨by omega, by omega, by omega, by omega, rfl, by rw [show m - (m - a) = a by omega, show m + (b - m) = b by omega]⟩, ?_⟩
  rintro i j d ⟨i0, j0, i1, j1, dl, e⟩
  refine ⟨fun hne => ⟨fun c => ?_, fun c => ?_⟩, fun hq => ?_⟩
  · refine ⟨by unfold inI64; omega, ⟨by omega, by omega, by omega, by omega, by omega, by omega, by omega⟩, by unfold inI64; omega, ⟨by omega, by omega, by omega, by omega, by rw [swr_len]; exact dl, ?_⟩, by dsimp only; omega⟩
    rw [rot_step1 j0 c (by omega) (by omega)]; exact e
  · refine ⟨by unfold inI64; omega, by unfold inI64; omega, by unfold inI64; omega, ⟨by omega, by omega, by omega, by omega, by omega, by omega, by omega⟩, by unfold inI64; omega, ⟨by omega, by omega, by omega, by omega, by rw [swr_len]; exact dl, ?_⟩, by dsimp only; omega⟩
    rw [rot_step2 i0 (by omega) (by omega) (by omega)]; exact e
  · have hij : i = j := Classical.not_not.1 hq
    subst hij
    refine ⟨by unfold inI64; omega, ⟨by omega, by omega, by omega, by omega, by omega, by omega, by omega⟩, ?_⟩
    rw [rot_last i0 (by omega) (by omega)]; exact e

theorem sort_symMerge_func_hC : Cons Try.prog [] := trivial
theorem sort_symMerge_func_one (n : Nat) (hr : ConZ Try.prog f_sort_symMerge_func (symNH_cz n)) : ConZ Try.prog f_sort_symMerge_func (symNH_cz n.succ) := sort_symMerge_func_vc sort_symMerge_func_hC n sort_rotate_func_con hr ref_cursorsNormed_1_con internal_reflectlite_Swapper_9_con fun ls a m b h => by
  obtain ⟨⟨a0, am, mb, bl, ⟨hf, -, hs⟩, sl, sr⟩, hn⟩ := h
  have bl : b ≤ (ls.length : Int) := bl
  have hf : (ls.length : Int) ≤ 140737488351232 := hf
  have hs : Swo heldLt := hs
  have sl : SrtIn heldLt ls a m := sl
  have sr : SrtIn heldLt ls m b := sr
  have okc : ∀ d : List Held, d.length = ls.length → okAllD held_q () d := fun d hd => ⟨by show (d.length : Int) ≤ _; omega, fun _ _ => trivial, hs⟩
  refine ⟨by unfold inI64; omega, fun h1 => ?_, fun h1 => ⟨by unfold inI64; omega, fun h2 => ?_, fun h2 => ?_⟩⟩
  · have em : m = a + 1 := by omega
    subst em
    refine ⟨fun i j => a + 1 ≤ i ∧ i ≤ j ∧ j ≤ b ∧ (∀ q : Int, a + 1 ≤ q → q < i → heldLt (gt ls q) (gt ls a)) ∧ ∀ q : Int, j ≤ q → q < b → ¬ heldLt (gt ls q) (gt ls a), fun i j => (j - i).toNat, ⟨rfl, by omega, by omega, by omega, fun q _ _ => by omega, fun q _ _ => by omega⟩, ?_⟩
    rintro i j ⟨i0, ij, jb, lo, hi⟩
    rw [half64 (by omega) (by omega)]
    refine ⟨fun hx => ⟨by unfold inI64; omega, by decide, by unfold inI64; omega, ⟨by omega, by omega, by omega, by omega, hf⟩, fun c => ?_, fun c => ?_⟩, fun hx => ?_⟩
    · have c := bo_true.1 c
      refine ⟨by unfold inI64; omega, rfl, ⟨by omega, by omega, jb, fun q q0 q1 => ?_, hi⟩, by dsimp only; omega⟩
      by_cases e : q = (i + j) / 2
      · rw [e]; exact c
      · refine Classical.not_not.1 fun w => ?_
        exact hs.ntrans _ _ _ (sr q ((i + j) / 2) q0 (by omega) (by omega)) w c
    · have c := fun w => c (bo_true.2 w)
      refine ⟨rfl, ⟨i0, by omega, by omega, lo, fun q q0 q1 => ?_⟩, by dsimp only; omega⟩
      by_cases e : q = (i + j) / 2
      · rw [e]; exact c
      · exact hs.ntrans _ _ _ (sr ((i + j) / 2) q (by omega) (by omega) q1) c
    · have ej : j = i := by omega
      subst ej
      refine ⟨fun k d => a ≤ k ∧ k ≤ j - 1 ∧ Part heldLt ls d a b ∧ ShL ls d a k, fun k _ => (j - k).toNat, ⟨by omega, by omega, .refl _ _ _, rfl, rfl, fun p _ _ => by omega, fun p _ _ => rfl⟩, ?_⟩
      rintro k d ⟨k0, k1, hp, hh⟩
      have dl := hp.len
      refine ⟨by unfold inI64; omega, fun hk => ?_, fun hk => ?_⟩
      · have q : heldLt (gt d (k + 1)) (gt d (k + 1 - 1)) := by
          rw [show k + 1 - 1 = k by omega, hh.at_, hh.hi _ (by omega) (by omega)]
          exact lo _ (by omega) (by omega)
        have p2 := swp_part hs hp a0 (show a < k + 1 by omega) (by omega) (by omega) q
        rw [show k + 1 - 1 = k by omega, swpL_comm (by omega) (by omega) (by omega) (by omega)] at p2
        exact ⟨by unfold inI64; omega, ⟨by omega, by omega, by omega, by omega⟩, by unfold inI64; omega, ⟨by omega, by omega, p2, hh.step a0 k0 (by omega)⟩, by dsimp only; omega⟩
      · have ek : k = j - 1 := by omega
        subst ek
        exact (seg_eq hs hp (hh.srt hs a0 bl i0 jb sr lo hi) a0 (by omega) bl).symm
  · have em : b = m + 1 := by omega
    subst em
    refine ⟨fun i j => a ≤ i ∧ i ≤ j ∧ j ≤ m ∧ (∀ q : Int, a ≤ q → q < i → ¬ heldLt (gt ls m) (gt ls q)) ∧ ∀ q : Int, j ≤ q → q < m → heldLt (gt ls m) (gt ls q), fun i j => (j - i).toNat, ⟨rfl, by omega, by omega, by omega, fun q _ _ => by omega, fun q _ _ => by omega⟩, ?_⟩
    rintro i j ⟨i0, ij, jb, lo, hi⟩
    rw [half64 (by omega) (by omega)]
    refine ⟨fun hx => ⟨by unfold inI64; omega, by decide, by unfold inI64; omega, ⟨by omega, by omega, by omega, by omega, hf⟩, fun c => ?_, fun c => ?_⟩, fun hx => ?_⟩
    · have c := fun w => c (bo_true.2 w)
      refine ⟨by unfold inI64; omega, rfl, ⟨by omega, by omega, jb, fun q q0 q1 => ?_, hi⟩, by dsimp only; omega⟩
      by_cases e : q = (i + j) / 2
      · rw [e]; exact c
      · exact hs.ntrans _ _ _ c (sl q ((i + j) / 2) q0 (by omega) (by omega))
    · have c := bo_true.1 (Classical.not_not.1 c)
      refine ⟨rfl, ⟨i0, by omega, by omega, lo, fun q q0 q1 => ?_⟩, by dsimp only; omega⟩
      by_cases e : q = (i + j) / 2
      · rw [e]; exact c
      · refine Classical.not_not.1 fun w => ?_
        exact hs.ntrans _ _ _ w (sl ((i + j) / 2) q (by omega) (by omega) q1) c
    · have ej : j = i := by omega
      subst ej
      refine ⟨fun k d => j ≤ k ∧ k ≤ m ∧ Part heldLt ls d a (m + 1) ∧ ShR ls d m k, fun k _ => k.toNat, ⟨by omega, by omega, .refl _ _ _, rfl, rfl, fun p _ _ => rfl, fun p _ _ => by omega⟩, ?_⟩
      rintro k d ⟨k0, k1, hp, hh⟩
      have dl := hp.len
      refine ⟨fun hk => ?_, fun hk => ?_⟩
      · have q : heldLt (gt d k) (gt d (k - 1)) := by
          rw [hh.at_, hh.lo _ (by omega) (by omega)]
          exact hi _ (by omega) (by omega)
        exact ⟨by unfold inI64; omega, ⟨by omega, by omega, by omega, by omega⟩, by unfold inI64; omega, ⟨by omega, by omega, swp_part hs hp a0 (by omega) (by omega) bl q, hh.step (by omega) k1 (by omega)⟩, by dsimp only; omega⟩
      · have ek : k = j := by omega
        subst ek
        exact (seg_eq hs hp (hh.srt hs a0 (by omega) i0 k1 sl hi lo) a0 (by omega) bl).symm
  · rw [half64 (by omega) (by omega)]
    have hs0 : iteP ((a + b) / 2 < m) ((a + b) / 2 + m - b) a = if (a + b) / 2 < m then (a + b) / 2 + m - b else a := iteP_if
    have hr0 : iteP ((a + b) / 2 < m) ((a + b) / 2) m = if (a + b) / 2 < m then (a + b) / 2 else m := iteP_if
    generalize iteP ((a + b) / 2 < m) ((a + b) / 2 + m - b) a = s0 at *
    generalize iteP ((a + b) / 2 < m) ((a + b) / 2) m = r0 at *
    have hmid : 2 * ((a + b) / 2) ≤ a + b ∧ a + b ≤ 2 * ((a + b) / 2) + 1 := by omega
    generalize (a + b) / 2 = mid at *
    have hsr : (mid < m ∧ s0 = mid + m - b ∧ r0 = mid) ∨ (¬ mid < m ∧ s0 = a ∧ r0 = m) := by
      by_cases c : mid < m
      · rw [if_pos c] at hs0 hr0; exact .inl ⟨c, hs0, hr0⟩
      · rw [if_neg c] at hs0 hr0; exact .inr ⟨c, hs0, hr0⟩
    clear hs0 hr0
    refine ⟨by unfold inI64; omega, by decide, by unfold inI64; omega, by unfold inI64; omega, fun _ => by unfold inI64; omega, by unfold inI64; omega, fun st r => s0 ≤ st ∧ st ≤ r ∧ r ≤ r0 ∧ (s0 < st → ¬ heldLt (gt ls (mid + m - 1 - (st - 1))) (gt ls (st - 1))) ∧ (r < r0 → heldLt (gt ls (mid + m - 1 - r)) (gt ls r)), fun st r => (r - st).toNat, ⟨rfl, by omega, by omega, by omega, fun _ => by omega, fun _ => by omega⟩, ?_⟩
    rintro st r ⟨p0, p1, p2, p3, p4⟩
    refine ⟨fun hx => ?_, fun hx => ?_⟩
    · rw [half64 (by omega) (by omega)]
      have hm2 : 2 * ((st + r) / 2) ≤ st + r ∧ st + r ≤ 2 * ((st + r) / 2) + 1 := by omega
      generalize (st + r) / 2 = c at *
      refine ⟨by unfold inI64; omega, by decide, by unfold inI64; omega, by unfold inI64; omega, ⟨by omega, by omega, by omega, by omega, hf⟩, fun q => ⟨by unfold inI64; omega, rfl, ⟨by omega, by omega, p2, fun _ => ?_, p4⟩, by dsimp only; omega⟩, fun q => ⟨rfl, ⟨p0, by omega, by omega, p3, fun _ => bo_true.1 (Classical.not_not.1 q)⟩, by dsimp only; omega⟩⟩
      rw [show c + 1 - 1 = c by omega]; exact fun w => q (bo_true.2 w)
    · have er : r = st := by omega
      subst er
      have ok : SymOk heldLt ls a m b mid r (mid + m - r) := ⟨a0, am, mb, bl, rfl, by omega, by omega, by omega, by omega, by omega, by omega, sl, sr, fun c1 c2 => by
          have := p3 (by omega)
          rwa [show mid + m - 1 - (r - 1) = mid + m - r by omega] at this, fun c1 c2 => by
          have := p4 (by omega)
          rwa [show mid + m - 1 - r = mid + m - r - 1 by omega] at this⟩
      have g1 := ok.s0; have g2 := ok.s1; have g3 := ok.s2; have g4 := ok.e0; have g5 := ok.e1; have g6 := ok.e2
      have len1 := rotL_len ls r m (mid + m - r)
      -- what the calls are given, and what comes of them
      have key : ∀ d1 : List Held, d1 = rotL ls r m (mid + m - r) → (a < r ∧ r < mid → (symPreD held_q () d1 a r mid ∧ mid - a < (↑n : Int)) ∧ (mid < mid + m - r ∧ mid + m - r < b → (symPreD held_q () (seg heldLt d1 a mid) mid (mid + m - r) b ∧ b - mid < (↑n : Int)) ∧ seg heldLt (seg heldLt d1 a mid) mid b = seg heldLt ls a b) ∧ (¬ (mid < mid + m - r ∧ mid + m - r < b) → seg heldLt d1 a mid = seg heldLt ls a b)) ∧
          (¬ (a < r ∧ r < mid) → (mid < mid + m - r ∧ mid + m - r < b → (symPreD held_q () d1 mid (mid + m - r) b ∧ b - mid < (↑n : Int)) ∧ seg heldLt d1 mid b = seg heldLt ls a b) ∧ (¬ (mid < mid + m - r ∧ mid + m - r < b) → d1 = seg heldLt ls a b)) := fun d1 hd => by
        subst hd
        obtain ⟨u1, u2⟩ := seg_spec hs (l := rotL ls r m (mid + m - r)) (a := a) (b := mid) a0 (by omega) (by omega)
        have ul := u1.len
        have right2 : ∀ {d : List Held}, Part heldLt (rotL ls r m (mid + m - r)) d a mid → SrtIn heldLt d mid (mid + m - r) ∧ SrtIn heldLt d (mid + m - r) b ∧ (¬ (mid < mid + m - r ∧ mid + m - r < b) → SrtIn heldLt d mid b) := fun {d} hd =>
          ⟨srt_out hd (by omega) (by omega) (.inr (Int.le_refl _)) ok.srt3, srt_out hd (by omega) (by omega) (.inr (by omega)) ok.srt4, fun c => srt_out hd (by omega) (by omega) (.inr (Int.le_refl _)) (ok.right c)⟩
        refine ⟨fun c => ⟨⟨⟨a0, c.1, c.2, by show mid ≤ ((rotL ls r m (mid + m - r)).length : Int); omega, okc _ len1, ok.srt1, ok.srt2⟩, by omega⟩, fun c2 => ?_, fun c2 => ?_⟩, fun c => ⟨fun c2 => ?_, fun c2 => ?_⟩⟩
        · obtain ⟨w1, w2, _⟩ := right2 u1
          refine ⟨⟨⟨by omega, c2.1, c2.2, Int.le_trans bl (Int.ofNat_le.2 (Nat.le_of_eq (ul.trans len1).symm)), okc _ (ul.trans len1), w1, w2⟩, by omega⟩, ?_⟩
          obtain ⟨v1, v2⟩ := seg_spec hs (l := seg heldLt (rotL ls r m (mid + m - r)) a mid) (a := mid) (b := b) (by omega) (by omega) (by omega)
          exact ok.fin hs u1 u2 v1 v2
        · exact ok.fin hs u1 u2 (.refl _ _ _) ((right2 u1).2.2 c2)
        · obtain ⟨w1, w2, _⟩ := right2 (.refl _ _ _)
          refine ⟨⟨⟨by omega, c2.1, c2.2, by show b ≤ ((rotL ls r m (mid + m - r)).length : Int); omega, okc _ len1, w1, w2⟩, by omega⟩, ?_⟩
          obtain ⟨v1, v2⟩ := seg_spec hs (l := rotL ls r m (mid + m - r)) (a := mid) (b := b) (by omega) (by omega) (by omega)
          exact ok.fin hs (.refl _ _ _) (ok.left c) v1 v2
        · exact ok.fin hs (.refl _ _ _) (ok.left c) (.refl _ _ _) ((right2 (.refl _ _ _)).2.2 c2)
      refine ⟨by unfold inI64; omega, fun c => ⟨⟨by omega, c.1, c.2, by omega, hf⟩, key _ rfl⟩, fun c => key ls (rot_id (by omega) g2 g4).symm⟩
theorem sort_symMerge_func_all : ∀ n : Nat, ConZ Try.prog f_sort_symMerge_func (symNH_cz n)
  | 0 => ⟨trivial, by kernel_rfl, symNH_cz_dec 0, fun k ls (a : Int × Int × Int) h => by
    obtain ⟨⟨_, h1, h2, _⟩, h3⟩ := h
    have h1 : a.1 < a.2.1 := h1
    have h2 : a.2.1 < a.2.2 := h2
    have h3 : a.2.2 - a.1 < ((0 : Nat) : Int) := h3
    omega⟩
  | n + 1 => sort_symMerge_func_one n (sort_symMerge_func_all n)
theorem sort_symMerge_func_con : ConZ Try.prog f_sort_symMerge_func symH_cz := ⟨trivial, by kernel_rfl, symH_cz_dec, fun k ls (a : Int × Int × Int) h => (sort_symMerge_func_all (a.2.2 - a.1 + 1).toNat).2.2.2 k ls a ⟨h, by
  have h1 : a.1 < a.2.1 := h.2.1
  have h2 : a.2.1 < a.2.2 := h.2.2.1
  show a.2.2 - a.1 < (((a.2.2 - a.1 + 1).toNat : Nat) : Int)
  omega⟩⟩

theorem sort_stable_func_hC : Cons Try.prog [] := trivial
theorem sort_stable_func_con : ConZ Try.prog f_sort_stable_func stbH_cz := sort_stable_func_vc sort_stable_func_hC sort_insertionSort_func_con sort_symMerge_func_con fun ls n h => by
  obtain ⟨hn, hf, -, hs⟩ := h
  have hn : n = (ls.length : Int) := hn
  have hf : (ls.length : Int) ≤ 140737488351232 := hf
  have hs : Swo heldLt := hs
  subst hn
  have okc : ∀ d : List Held, d.length = ls.length → okAllD held_q () d := fun d hd => ⟨by show (d.length : Int) ≤ _; omega, fun _ _ => trivial, hs⟩
  refine ⟨fun a b d => 0 ≤ a ∧ b = a + 20 ∧ a ≤ ls.length ∧ (20 : Int) ∣ a ∧ Part heldLt ls d 0 ls.length ∧ BlkTo heldLt d 20 a, fun a _ _ => (ls.length - a).toNat, ⟨by omega, by omega, by omega, by omega, .refl _ _ _, .zero _ _⟩, ?_⟩
  rintro a b d ⟨a0, rfl, al, ad, hp, hb⟩
  have dl := hp.len
  refine ⟨fun hx => ?_, fun hx => ?_⟩
  · obtain ⟨g1, g2⟩ := seg_spec hs (l := d) (a := a) (b := a + 20) a0 (by omega) (by omega)
    exact ⟨⟨a0, by omega, by omega, okc d dl⟩, by unfold inI64; omega, ⟨by omega, rfl, by omega, by omega, hp.trans (g1.wide a0 (by omega)), hb.step g1 g2 a0 (by omega) (by omega) ad⟩, by dsimp only; omega⟩
  · obtain ⟨g1, g2⟩ := seg_spec hs (l := d) (a := a) (b := ls.length) a0 al (by omega)
    have hp1 := hp.trans (g1.wide a0 (Int.le_refl _))
    have hl1 := hp1.len
    refine ⟨⟨a0, al, by omega, okc d dl⟩, fun w e => 20 ≤ w ∧ Part heldLt ls e 0 ls.length ∧ BlkFrom heldLt e w 0, fun w _ => (ls.length - w).toNat, ⟨by omega, hp1, ?_⟩, ?_⟩
    · refine blk_all (a := a) (fun c c0 c1 hc => ?_) ad (by omega) (by omega) (by rw [hl1]; exact g2)
      have cw : c + 20 ≤ a := by
        have := Int.le_of_dvd (show 0 < a - c by omega) (Int.dvd_sub ad hc); omega
      exact srt_out g1 c0 (by omega) (.inl cw) (hb c c0 c1 hc)
    rintro w e ⟨w0, hq, hw⟩
    have el := hq.len
    refine ⟨fun hx => ⟨by unfold inI64; omega, fun a b e => 0 ≤ a ∧ b = a + 2 * w ∧ a ≤ ls.length ∧ 2 * w ∣ a ∧ Part heldLt ls e 0 ls.length ∧ BlkTo heldLt e (2 * w) a ∧ BlkFrom heldLt e w a, fun a _ _ => (ls.length - a).toNat, ⟨by omega, by omega, by omega, Int.dvd_zero _, hq, .zero _ _, hw⟩, ?_⟩, fun hx => ?_⟩
    · rintro a b e ⟨a0, rfl, al, ad, hq, hb, hw⟩
      have el := hq.len
      have b1 := hw a (Int.le_refl _) (by rw [Int.sub_self]; exact Int.dvd_zero _)
      have b2 := hw (a + w) (by omega) ⟨1, by omega⟩
      rw [el] at b1 b2
      refine ⟨fun hx => ?_, fun hx => ⟨by unfold inI64; omega, fun hy => ?_, fun hy => ?_⟩⟩
      · obtain ⟨g1, g2⟩ := seg_spec hs (l := e) (a := a) (b := a + 2 * w) a0 (by omega) (by omega)
        refine ⟨by unfold inI64; omega, ⟨a0, by omega, by omega, by show a + 2 * w ≤ (e.length : Int); omega, okc e el, fun p q p0 pq qb => b1 p q p0 pq (by omega), fun p q p0 pq qb => b2 p q p0 pq (by omega)⟩, by unfold inI64; omega, by unfold inI64; omega, ⟨by omega, by omega, by omega, Int.dvd_add ad (Int.dvd_refl _), hq.trans (g1.wide a0 (by omega)), hb.step g1 g2 a0 (by omega) (by omega) ad, hw.step g1 a0 (by omega)⟩, by dsimp only; omega⟩
      · obtain ⟨g1, g2⟩ := seg_spec hs (l := e) (a := a) (b := ls.length) a0 al (by omega)
        have hq1 := hq.trans (g1.wide a0 (Int.le_refl _))
        have hl1 := hq1.len
        refine ⟨⟨a0, by omega, hy, by show (ls.length : Int) ≤ (e.length : Int); omega, okc e el, fun p q p0 pq qb => b1 p q p0 pq (by omega), fun p q p0 pq qb => b2 p q p0 pq (by omega)⟩, by unfold inI64; omega, ⟨by omega, hq1, ?_⟩, by dsimp only; omega⟩
        rw [Int.mul_comm]
        refine blk_all (a := a) (fun c c0 c1 hc => ?_) ad (by omega) (by omega) (by rw [hl1]; exact g2)
        have cw : c + 2 * w ≤ a := by
          have := Int.le_of_dvd (show 0 < a - c by omega) (Int.dvd_sub ad hc); omega
        exact srt_out g1 c0 (by omega) (.inl cw) (hb c c0 c1 hc)
      · refine ⟨by unfold inI64; omega, ⟨by omega, hq, ?_⟩, by dsimp only; omega⟩
        rw [Int.mul_comm]
        exact blk_all hb ad (by omega) (by omega) fun p q p0 pq qb => b1 p q p0 pq (by omega)
    · have := seg_eq hs hq (by rw [← el]; exact blk_srt hw (by omega)) (Int.le_refl _) (by omega) (Int.le_refl _)
      rw [seg_all] at this
      exact this.symm
noncomputable def held_info : TypeInfo := (Try.prog.info? 118).get (by kernel_rfl)
noncomputable def held_elem : TypeInfo := (Try.prog.info? 120).get (by kernel_rfl)
theorem held_k (n : Nat) (h2 : 2 ≤ n) : Go.Lib.swapperK n held_elem 25 = 9 := by
  have a : held_elem.hasPointers = false := by kernel_rfl
  have b : held_elem.bytes = 24 := by kernel_rfl
  have c : (n == 0) = false := by simp; omega
  have d : (n == 1) = false := by simp; omega
  simp [Go.Lib.swapperK, a, b, c, d]
theorem held_k0 : Go.Lib.swapperK 0 held_elem 25 = 1 := by kernel_rfl
theorem held_k1 : Go.Lib.swapperK 1 held_elem 25 = 2 := by kernel_rfl
theorem held_find (n : Nat) (h : n ≤ 1) : ∃ f0, Try.prog.funcs.findIdx? (·.name == "internal/reflectlite" ++ ".Swapper$" ++ toString (Go.Lib.swapperK n held_elem 25)) = some f0 := by
  rcases Nat.lt_or_ge n 1 with q | q
  · obtain rfl : n = 0 := by omega
    exact ⟨129, by rw [held_k0]; kernel_rfl⟩
  · obtain rfl : n = 1 := by omega
    exact ⟨130, by rw [held_k1]; kernel_rfl⟩
theorem sort_SliceStable_con : FiOk Try.prog f_sort_SliceStable held_sls_sf := sls_fok ⟨⟨_, Try.sortStable, rfl, rfl⟩, by kernel_rfl, by kernel_rfl,
  held_info, held_elem, 25, by kernel_rfl, by kernel_rfl, by kernel_rfl, by kernel_rfl, fun _ => by kernel_rfl, fun n h => by rw [held_k n h]; kernel_rfl, held_find⟩ (by kernel_rfl) sort_stable_func_con (fun _ _ _ _ => rfl) fun _ ls _ h => stab_small held_swo h

theorem ref_cursorsNormed_hC : Cons Try.prog [] := trivial
theorem ref_cursorsNormed_con : Con Try.prog f_ref_cursorsNormed ref_cursorsNormed_ct := ref_cursorsNormed_vc ref_cursorsNormed_hC sort_SliceStable_con fun l h => by
  have hl : l.length ≤ 20 := h
  have sl := stab_len cur_swo l
  have hsrt := (stab_spec cur_swo l).2
  refine ⟨fun x all => 0 ≤ x ∧ x ≤ l.length ∧ all = (l.take x.toNat).map heldOf, fun x _ => (l.length - x).toNat, ⟨by omega, by omega, by simp⟩, ?_⟩
  rintro x all ⟨x0, x1, rfl⟩
  have len : ((l.take x.toNat).map heldOf).length = x.toNat := by simp; omega
  refine ⟨fun t => ⟨x0, t, fun c => ⟨by omega, by unfold inI64; omega, ⟨by omega, by omega, ?_⟩, by dsimp only; omega⟩, fun c => ⟨by omega, by unfold inI64; omega, ⟨by omega, by omega, ?_⟩, by dsimp only; omega⟩⟩, fun t => ?_⟩
  · rw [take_gt x0 t, List.map_append, List.map_cons, List.map_nil, held_lt c]
  · rw [take_gt x0 t, List.map_append, List.map_cons, List.map_nil, held_ge c]
  rw [List.take_of_length_le (by omega)]
  have ll : (l.map heldOf).length = l.length := by simp
  refine ⟨by omega, ⟨rfl, by show ((l.map heldOf).length : Int) ≤ 140737488351232; omega, fun _ _ => trivial, held_swo⟩, fun i all => NInv (stab curLt l) i all, fun i all => (all.length - i).toNat, ?_, ?_⟩
  · rw [held_stab]; exact NInv.init hsrt
  rintro i all hn
  have hb := hn.bounds
  refine ⟨by unfold inI64; omega, fun t => ?_, fun t => ?_⟩
  · obtain ⟨a, c, ea, ec, lo, st1, st2⟩ := hn.step hsrt t
    refine ⟨by omega, by omega, by unfold inI64; omega, by omega, t, fun q => ⟨by unfold inI64; omega, st1 fun w => touch_held.1 w (by rw [ea, ec] at q; exact q), by dsimp only; omega⟩, fun q => ?_⟩
    have tc : curTouch a c := touch_held.2 (by rw [ea, ec] at q; exact q)
    obtain ⟨g1, g2⟩ := st2 tc
    have fin : ∀ b : Bool, heldOf (curBoth a c) = ((gt all i).1, max (gt all i).2.1 (gt all (i + 1)).2.1, b) → inI64 (i + 2) ∧ 0 ≤ i + 2 ∧ i + 2 ≤ all.length ∧ (all.length : Int) ≤ all.length ∧ (List.take ((all.length : Int) - (i + 2)).toNat (List.drop (i + 2).toNat all)).length * 24 ≤ 140737488355328 ∧ i = i ∧ 0 ≤ i ∧ i ≤ all.length ∧ (i.toNat + 1) * 24 ≤ 140737488355328 ∧
        ((List.take i.toNat (List.drop 0 all) ++ [((gt all i).1, max (gt all i).2.1 (gt all (i + 1)).2.1, b)]).length + (List.take ((all.length : Int) - (i + 2)).toNat (List.drop (i + 2).toNat all)).length) * 24 ≤ 140737488355328 ∧
        NInv (stab curLt l) i (List.take i.toNat (List.drop 0 all) ++ [((gt all i).1, max (gt all i).2.1 (gt all (i + 1)).2.1, b)] ++ List.take ((all.length : Int) - (i + 2)).toNat (List.drop (i + 2).toNat all)) ∧
        ((List.take i.toNat (List.drop 0 all) ++ [((gt all i).1, max (gt all i).2.1 (gt all (i + 1)).2.1, b)] ++ List.take ((all.length : Int) - (i + 2)).toNat (List.drop (i + 2).toNat all)).length - i).toNat < (all.length - i).toNat := fun b e => by
      rw [← e]
      rw [List.length_append] at g2
      exact ⟨by unfold inI64; omega, by omega, by omega, by omega, by rw [List.length_append] at g2; omega, rfl, by omega, by omega, by omega, by omega, g1, by rw [List.length_append]; omega⟩
    refine ⟨fun w => fin _ ?_, fun w => fin _ ?_⟩
    · rw [ea, ec]; exact held_both lo _ ⟨fun _ => rfl, fun z => absurd (by rw [ea] at w; exact w) z⟩
    · rw [ea, ec]; exact held_both lo _ ⟨fun z => absurd z (by rw [ea] at w; exact w), fun _ => rfl⟩
  · have ef := hn.fin t
    have al := congrArg List.length ef
    rw [List.length_map] at al
    have cl := fold_len (stab curLt l)
    have ge : ∀ x : Int, 0 ≤ x → x < all.length → unHeld (gt all x) = gt (curFold (stab curLt l)) x := fun x x0 x1 => by
      rw [ef, gt_map x0 (by omega), un_held]
    refine ⟨fun x out => 0 ≤ x ∧ x ≤ all.length ∧ out = (curFold (stab curLt l)).take x.toNat, fun x _ => (all.length - x).toNat, ⟨rfl, by omega, by omega, by simp⟩, ?_⟩
    rintro x out ⟨x0, x1, rfl⟩
    have ol : ((curFold (stab curLt l)).take x.toNat).length = x.toNat := by simp; omega
    refine ⟨fun t => ⟨x0, t, fun c => ⟨by omega, by unfold inI64; omega, rfl, ⟨by omega, by omega, ?_⟩, by dsimp only; omega⟩, fun c => ⟨by omega, by unfold inI64; omega, rfl, ⟨by omega, by omega, ?_⟩, by dsimp only; omega⟩⟩, fun t => ?_⟩
    · rw [take_gt x0 (by omega), ← ge x x0 t]; unfold unHeld; rw [if_pos c]
    · rw [take_gt x0 (by omega), ← ge x x0 t]; unfold unHeld; rw [if_neg c]
    · rw [List.take_of_length_le (by omega)]; rfl

theorem ref_CursorsType_hC : Cons Try.prog [(f_ref_cursorsFault, ref_cursorsFault_ct), (f_ref_cursorsNormed, ref_cursorsNormed_ct)] := ⟨ref_cursorsFault_con, ref_cursorsNormed_con, trivial⟩
theorem ref_CursorsType_con : Con Try.prog f_ref_CursorsType ref_CursorsType_ct := ref_CursorsType_vc ref_CursorsType_hC fun text l put ⟨hs, hl⟩ => by
  simp only [inI_iff, true_and, and_true, ne_eq, Int.reduceEq, not_false_eq_true, Int.toNat_zero, prod_eta] at *
  refine ⟨by omega, fun c => by rw [type_a c]; exact ⟨rfl, rfl, rfl⟩, fun c => ?_⟩
  have c : cursorsFault text.length l = 0 := Classical.not_not.1 c
  obtain ⟨c1, c2, c3, c4⟩ := fault_ok c
  have ap : Apart text.length (curNorm l) := apart_norm c4
  have nl := norm_len l
  have wl := twhole_len (put := put) ap
  have gb : ∀ x : Int, 0 ≤ x → x ≤ (curNorm l).length → -12000 ≤ tGrown put ((curNorm l).take x.toNat) ∧ tGrown put ((curNorm l).take x.toNat) ≤ 20 * 140737488351232 := fun x x0 x1 => by
    have := tgrown_bd (put := put) ap x.toNat (by omega)
    have k : (x.toNat : Int) ≤ 20 := by omega
    have a1 : (x.toNat : Int) * text.length ≤ 20 * 600 := Int.mul_le_mul k (by omega) (by omega) (by omega)
    have a2 : (x.toNat : Int) * put.length ≤ 20 * 140737488351232 := Int.mul_le_mul k (by omega) (by omega) (by omega)
    omega
  have bd : ∀ x : Int, 0 ≤ x → x < (curNorm l).length → 0 ≤ cLo (gt (curNorm l) x) ∧ cLo (gt (curNorm l) x) ≤ cHi (gt (curNorm l) x) ∧ cHi (gt (curNorm l) x) ≤ text.length := fun x x0 x1 => ⟨(ap x x0 x1).1, lo_hi _, (ap x x0 x1).2.1⟩
  refine ⟨c1, fun size x => 0 ≤ x ∧ x ≤ (curNorm l).length ∧ size = text.length + tGrown put ((curNorm l).take x.toNat), fun _ x => ((curNorm l).length - x).toNat, ⟨by omega, by omega, by simp [tGrown]⟩, ?_⟩
  rintro size x ⟨h0, h1, h2⟩
  dsimp only
  refine ⟨fun t => ?_, fun t => ?_⟩
  · have g1 := gb x h0 h1
    have b := bd x h0 t
    have e := tgrown_succ (put := put) h0 t
    simp only [cLo, cHi] at b e
    exact ⟨h0, t, by omega, by omega, by omega, by omega, by omega, ⟨by omega, by omega, by omega⟩, by omega⟩
  have ex : tGrown put ((curNorm l).take x.toNat) = tGrown put (curNorm l) := by rw [List.take_of_length_le (by omega)]
  refine ⟨fun q => by rw [type_b c (by omega)]; exact ⟨rfl, rfl, rfl⟩, fun q => ?_⟩
  have tc := type_c c (put := put) (by omega)
  rw [tc]
  refine ⟨fun grown x out => 0 ≤ x ∧ x ≤ (curNorm l).length ∧ grown = tGrown put ((curNorm l).take x.toNat) ∧ out = (tMade text put ((curNorm l).take x.toNat)).2.2, fun _ x _ => ((curNorm l).length - x).toNat, ⟨by omega, by omega, by simp [tGrown], by simp [tMade]⟩, ?_⟩
  rintro grown x out ⟨k0, k1, k2, k3⟩
  dsimp only
  have ho : out.length = x.toNat := by rw [k3]; exact tmade_out (text := text) (put := put) (l := curNorm l) x.toNat (by omega)
  refine ⟨fun t => ?_, fun t => ?_⟩
  · have g1 := gb x k0 k1
    have b := bd x k0 t
    have e := tgrown_succ (put := put) k0 t
    have e2 := tmade_place (put := put) ap k0 t
    rw [← k2, ← k3] at e2
    simp only [cLo, cHi] at b e e2
    exact ⟨k0, t, by omega, by omega, by omega, by omega, by omega, by omega, by omega, ⟨by omega, by omega, by omega, e2.symm⟩, by omega⟩
  have eo : out = (tMade text put (curNorm l)).2.2 := by rw [k3, List.take_of_length_le (by omega)]
  refine ⟨by omega, fun cur i => -1 ≤ i ∧ i < (curNorm l).length ∧ TBack text put (curNorm l) (i + 1) cur, fun _ i => (i + 1).toNat, ⟨by omega, by omega, by rw [Int.sub_add_cancel]; exact TBack.init ap⟩, ?_⟩
  rintro cur i ⟨j0, j1, j2⟩
  dsimp only
  refine ⟨fun t => ?_, fun t => ?_⟩
  · have l1 := j2.len ap (by omega) (by omega)
    obtain ⟨s1, s2, s3, s4⟩ := j2.step ap t j1
    have l2 := s1.len ap t (by omega)
    have b := bd i t j1
    simp only [List.drop_zero, Int.toNat_natCast, List.take_length, List.length_append, List.length_take, List.length_drop] at l2 ⊢
    simp only [cLo, cHi] at b s1 s2 s3 s4 l2
    refine ⟨t, j1, t, j1, by omega, by omega, by omega, by omega, t, j1, t, j1, by omega, by omega, by omega, by omega, by omega, ⟨by omega, by omega, by rw [Int.sub_add_cancel]; exact s1⟩, by omega⟩
  · exact ⟨j2.fin (by omega), eo, rfl⟩

theorem law_sameCursors_hC : Cons Try.prog [] := trivial
theorem law_sameCursors_con : Con Try.prog f_law_sameCursors law_sameCursors_ct := law_sameCursors_vc law_sameCursors_hC fun a b h => by
  simp only [inI_iff, true_and, and_true, ne_eq, Int.reduceEq, not_false_eq_true, Int.toNat_zero, false_bo, true_bo, fitL] at *
  refine ⟨fun q e => q (by rw [e]), fun q => ⟨fun i => 0 ≤ i ∧ i ≤ a.length ∧ ∀ j : Int, 0 ≤ j → j < i → gt a j = gt b j, fun i => (a.length - i).toNat, ⟨by omega, by omega, fun j h1 h2 => by omega⟩, fun i ⟨h0, h1, h2⟩ => ?_⟩⟩
  dsimp only
  refine ⟨fun r => ⟨h0, r, h0, by omega, fun t e => t (by rw [e]; exact ⟨rfl, rfl⟩), fun t => ⟨by omega, ⟨by omega, by omega, fun j j0 j1 => ?_⟩, by omega⟩⟩, fun r => ?_⟩
  · by_cases e : j = i
    · rw [e]; have := Classical.byContradiction t; exact Prod.ext this.1 this.2
    · exact h2 j j0 (by omega)
  · exact ext_gt (by omega) fun j j0 j1 => h2 j j0 (by omega)

theorem law_CursorsTypes_hC : Cons Try.prog [(f_cursors_Type, cursors_Type_ct), (f_ref_CursorsType, ref_CursorsType_ct), (f_law_sameCursors, law_sameCursors_ct)] := ⟨cursors_Type_con, ref_CursorsType_con, law_sameCursors_con, trivial⟩
theorem law_CursorsTypes_con : Con Try.prog f_law_CursorsTypes law_CursorsTypes_ct := law_CursorsTypes_vc law_CursorsTypes_hC fun text l put h => by
  have := type_few text put l
  simp only [prod_eta]
  refine ⟨⟨h.1, h.2.2⟩, ⟨h.1, h.2.2⟩, fun _ => ⟨by omega, by omega⟩, ?_⟩
  simp

end Go.Proofs.Ytkemhbclkglmbaa
