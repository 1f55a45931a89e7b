/-
  The log: the reader of the reference, against the reader of the specification.
-/
import Derived.Test.YtigcaalfadoiaaaVpW
set_option linter.unusedVariables false
set_option linter.unusedSimpArgs false
namespace Go.Fu
open Go.Vc
noncomputable section
abbrev cutL (b : List Int) (k a : Int) : List Int := (b.take k.toNat).drop a.toNat
theorem cutL_len {b : List Int} {k a : Int} (h0 : 0 ≤ a) (h1 : a ≤ k) (h2 : k ≤ b.length) : ((cutL b k a).length : Int) = k - a := by
  simp only [cutL, List.length_drop, List.length_take]; omega
theorem cutL_gt {b : List Int} {k a j : Int} (h0 : 0 ≤ a) (hj : 0 ≤ j) (h1 : a + j < k) : gt (cutL b k a) j = gt b (a + j) := by
  unfold cutL
  rw [gt_drop hj, Int.toNat_of_nonneg h0, gt_take (by omega) (by omega), Int.add_comm]
theorem cutL_drop {b : List Int} {k a n : Int} (h0 : 0 ≤ a) (hn : 0 ≤ n) : (cutL b k a).drop n.toNat = cutL b k (a + n) := by
  unfold cutL
  rw [List.drop_drop]
  congr 1; omega
theorem cutL_take {b : List Int} {k a n : Int} (h0 : 0 ≤ a) (hn : 0 ≤ n) (h1 : a + n ≤ k) : (cutL b k a).take n.toNat = (b.take (a + n).toNat).drop a.toNat := by
  unfold cutL
  rw [List.take_drop, List.take_take]
  congr 2; omega
abbrev rfRd (x : RfS) : Rd := (cutL x.2.2.2 x.2.1 x.1, x.2.2.1)
theorem rf_num {x : RfS} (h : rfPre x) : rfPre (rfNum x).2 ∧ (rfNum x).2.2.1 = x.2.1 ∧ (rfNum x).2.2.2.2 = x.2.2.2 ∧ (x.2.2.1 = true → (rfNum x).2.2.2.1 = true) ∧ x.1 ≤ (rfNum x).2.1 ∧ 0 ≤ (rfNum x).1 ∧ (rfNum x).1 < 65536 ∧
    (x.2.2.1 = false → (rdNum (rfRd x)).1.2 = (rfNum x).2.2.2.1 ∧ ((rfNum x).2.2.2.1 = false → rdNum (rfRd x) = (rfRd (rfNum x).2, (rfNum x).1))) := by
  obtain ⟨at_, k, over, b⟩ := x
  obtain ⟨h0, h1, h2, h3, h4⟩ := h
  simp only at h0 h1 h2 h3 h4
  have hl := cutL_len h0 h1 h2
  by_cases c : k < at_ + 2
  · rw [rfNum_if (x := (at_, k, over, b)) c]
    refine ⟨⟨h0, h1, h2, h3, h4⟩, rfl, rfl, fun _ => rfl, Int.le_refl _, Int.le_refl 0, show (0 : Int) < 65536 by omega, fun ho => ⟨?_, fun e => by cases e⟩⟩
    rw [rdNum_if (r := rfRd (at_, k, over, b)) (.inr (by show (cutL b k at_).length < 2; omega))]
  · rw [rfNum_else (x := (at_, k, over, b)) c]
    have g0 := bytesOk_gt h4 (i := at_) (by omega) (by omega)
    have g1 := bytesOk_gt h4 (i := at_ + 1) (by omega) (by omega)
    refine ⟨⟨by show 0 ≤ at_ + 2; omega, by show at_ + 2 ≤ k; omega, h2, h3, h4⟩, rfl, rfl, fun e => e, by show at_ ≤ at_ + 2; omega, by show 0 ≤ 256 * gt b at_ + gt b (at_ + 1); omega, by show 256 * gt b at_ + gt b (at_ + 1) < 65536; omega, fun ho => ?_⟩
    have ho : over = false := ho
    subst ho
    have e : rdNum (rfRd (at_, k, false, b)) = (rfRd (at_ + 2, k, false, b), 256 * gt b at_ + gt b (at_ + 1)) := by
      rw [rdNum_else (r := rfRd (at_, k, false, b)) (by
        rintro (w | w)
        · cases w
        · have w : (cutL b k at_).length < 2 := w
          omega)]
      have d := cutL_drop (b := b) (k := k) (n := 2) h0 (by omega)
      have q0 := cutL_gt (b := b) (k := k) (a := at_) (j := 0) h0 (by omega) (by omega)
      have q1 := cutL_gt (b := b) (k := k) (a := at_) (j := 1) h0 (by omega) (by omega)
      rw [Int.add_zero] at q0
      show ((List.drop 2 (cutL b k at_), false), 256 * gt (cutL b k at_) 0 + gt (cutL b k at_) 1) = _
      rw [q0, q1]
      exact congrArg (fun z => ((z, false), 256 * gt b at_ + gt b (at_ + 1))) d
    exact ⟨by rw [e], fun _ => e⟩
/-- The text of the state behind a number. -/
abbrev rfTxt (n : Int) (s : RfS) : Bytes := unI ((s.2.2.2.take (s.1 + n).toNat).drop (s.1 + n - n).toNat)
theorem rf_str {n : Int} {s : RfS} (h : rfPre s) (hn : 0 ≤ n) (ho : s.2.2.1 = false) :
    (s.2.1 < s.1 + n → (rdText1 (rfRd s) n).1.2 = true) ∧ (¬ s.2.1 < s.1 + n → rdText1 (rfRd s) n = (rfRd (s.1 + n, s.2.1, s.2.2.1, s.2.2.2), rfTxt n s) ∧ rfPre (s.1 + n, s.2.1, s.2.2.1, s.2.2.2)) := by
  obtain ⟨at_, k, over, b⟩ := s
  obtain ⟨h0, h1, h2, h3, h4⟩ := h
  simp only at h0 h1 h2 h3 h4 ho
  subst ho
  have hl := cutL_len h0 h1 h2
  refine ⟨fun c => ?_, fun c => ⟨?_, by show 0 ≤ at_ + n; simp only at c; omega, by show at_ + n ≤ k; simp only at c; omega, h2, h3, h4⟩⟩ <;> simp only at c
  · rw [rdText1_if (r := rfRd (at_, k, false, b)) (.inr (by show ((cutL b k at_).length : Int) < n; omega))]
  · rw [rdText1_else (r := rfRd (at_, k, false, b)) (by
      rintro (w | w)
      · cases w
      · have w : ((cutL b k at_).length : Int) < n := w
        omega)]
    have d := cutL_drop (b := b) (k := k) (n := n) h0 hn
    have t := cutL_take (b := b) (k := k) (n := n) h0 hn (by omega)
    show ((List.drop n.toNat (cutL b k at_), false), unI (List.take n.toNat (cutL b k at_))) = _
    rw [d, t]
    show _ = ((cutL b k (at_ + n), false), unI ((b.take (at_ + n).toNat).drop (at_ + n - n).toNat))
    rw [show at_ + n - n = at_ by omega]
theorem rf_text {x : RfS} (h : rfPre x) (ho : x.2.2.1 = false) :
    ((rfNum x).2.2.2.1 = true ∨ (rfNum x).2.2.1 < (rfNum x).2.1 + (rfNum x).1 → (rdText (rfRd x)).1.2 = true) ∧
    (¬ ((rfNum x).2.2.2.1 = true ∨ (rfNum x).2.2.1 < (rfNum x).2.1 + (rfNum x).1) →
      rdText (rfRd x) = (rfRd ((rfNum x).2.1 + (rfNum x).1, (rfNum x).2.2.1, (rfNum x).2.2.2.1, (rfNum x).2.2.2.2), rfTxt (rfNum x).1 (rfNum x).2) ∧
      rfPre ((rfNum x).2.1 + (rfNum x).1, (rfNum x).2.2.1, (rfNum x).2.2.2.1, (rfNum x).2.2.2.2)) := by
  obtain ⟨g1, g2, g3, g4, g5, g6, g7, g8⟩ := rf_num h
  obtain ⟨g8, g9⟩ := g8 ho
  by_cases c : (rfNum x).2.2.2.1 = true
  · exact ⟨fun _ => rdText1_bad (by rw [g8, c]), fun k => absurd (.inl c) k⟩
  · have c : (rfNum x).2.2.2.1 = false := by simpa using c
    have e := g9 c
    obtain ⟨q1, q2⟩ := rf_str g1 g6 c
    unfold rdText
    rw [e]
    exact ⟨fun k => q1 (k.resolve_left (by rw [c]; decide)), fun k => q2 fun w => k (.inr w)⟩
theorem rf_deed {x : RfS} (h : rfPre x) (ho : x.2.2.1 = false) :
    ((rfNum (rfNum (rfNum x).2).2).2.2.2.1 = true ∨ (rfNum (rfNum (rfNum x).2).2).2.2.1 < (rfNum (rfNum (rfNum x).2).2).2.1 + (rfNum (rfNum (rfNum x).2).2).1 → (rdDeed1 (rfRd x)).1.2 = true) ∧
    (¬ ((rfNum (rfNum (rfNum x).2).2).2.2.2.1 = true ∨ (rfNum (rfNum (rfNum x).2).2).2.2.1 < (rfNum (rfNum (rfNum x).2).2).2.1 + (rfNum (rfNum (rfNum x).2).2).1) →
      rdDeed1 (rfRd x) = (rfRd ((rfNum (rfNum (rfNum x).2).2).2.1 + (rfNum (rfNum (rfNum x).2).2).1, (rfNum (rfNum (rfNum x).2).2).2.2.1, (rfNum (rfNum (rfNum x).2).2).2.2.2.1, (rfNum (rfNum (rfNum x).2).2).2.2.2.2),
        (1, (rfNum x).1, (rfNum (rfNum x).2).1, rfTxt (rfNum (rfNum (rfNum x).2).2).1 (rfNum (rfNum (rfNum x).2).2).2)) ∧
      rfPre ((rfNum (rfNum (rfNum x).2).2).2.1 + (rfNum (rfNum (rfNum x).2).2).1, (rfNum (rfNum (rfNum x).2).2).2.2.1, (rfNum (rfNum (rfNum x).2).2).2.2.2.1, (rfNum (rfNum (rfNum x).2).2).2.2.2.2)) := by
  obtain ⟨a1, a2, a3, a4, a5, a6, a7, a8⟩ := rf_num h
  obtain ⟨a8, a9⟩ := a8 ho
  obtain ⟨b1, b2, b3, b4, b5, b6, b7, b8⟩ := rf_num a1
  obtain ⟨c1, c2, c3, c4, c5, c6, c7, c8⟩ := rf_num b1
  unfold rdDeed1
  by_cases c : (rfNum x).2.2.2.1 = true
  · exact ⟨fun _ => rdText_bad (rdNum_bad (by rw [a8, c])), fun k => absurd (.inl (c4 (b4 c))) k⟩
  have c : (rfNum x).2.2.2.1 = false := by simpa using c
  rw [a9 c]
  obtain ⟨b8, b9⟩ := b8 c
  by_cases d : (rfNum (rfNum x).2).2.2.2.1 = true
  · exact ⟨fun _ => rdText_bad (by rw [b8, d]), fun k => absurd (.inl (c4 d)) k⟩
  have d : (rfNum (rfNum x).2).2.2.2.1 = false := by simpa using d
  rw [b9 d]
  obtain ⟨t1, t2⟩ := rf_text b1 d
  refine ⟨t1, fun k => ⟨?_, (t2 k).2⟩⟩
  have e := (t2 k).1
  show ((rdText (rfRd (rfNum (rfNum x).2).2)).1, ((1 : Int), (rfNum x).1, (rfNum (rfNum x).2).1, (rdText (rfRd (rfNum (rfNum x).2).2)).2)) = _
  rw [e]
theorem load_save {b : List Int} (hb : bytesOk b) (hl : 12 ≤ b.length) (hs : (polyOf (unI (logBodyOf b))).1 = sumOf (logTail b)) (h : (logParse (logBodyOf b)).1.1.2 = false) :
    ((logSave (logParse (logBodyOf b)).2 (logParse (logBodyOf b)).1.2).2 ≠ 0 ∨ unI (logSave (logParse (logBodyOf b)).2 (logParse (logBodyOf b)).1.2).1 ≠ unI b → logLoad b = ([], [], 4)) ∧
    (¬ ((logSave (logParse (logBodyOf b)).2 (logParse (logBodyOf b)).1.2).2 ≠ 0 ∨ unI (logSave (logParse (logBodyOf b)).2 (logParse (logBodyOf b)).1.2).1 ≠ unI b) → logLoad b = ((logParse (logBodyOf b)).2, (logParse (logBodyOf b)).1.2, 0)) := by
  have hi := saved_iff hb hl hs h
  rw [logLoad_read (by omega) hs]
  have hf : (logParse (logBodyOf b)).1.1.2 ≠ true := by rw [h]; decide
  by_cases f : logFault (logParse (logBodyOf b)).2 (logParse (logBodyOf b)).1.2 = 0
  · have e : logSave (logParse (logBodyOf b)).2 (logParse (logBodyOf b)).1.2 = (ints (saved (logParse (logBodyOf b)).2 (logParse (logBodyOf b)).1.2), 0) := if_neg (not_not_intro f)
    rw [e]
    simp only [unI_ints]
    refine ⟨fun k => logRead_no ?_, fun k => logRead_yes ?_⟩
    · have k := k.resolve_left (fun w => w rfl)
      by_cases g : (logParse (logBodyOf b)).1.1.1 = []
      · exact .inr (.inr (.inl fun w => k (hi.2 ⟨g, w⟩)))
      · exact .inr (.inl g)
    · rintro (w | w | w | w)
      · exact hf w
      · exact k (.inr fun q => w (hi.1 q).1)
      · exact k (.inr fun q => w (hi.1 q).2)
      · exact w f
  · have e : logSave (logParse (logBodyOf b)).2 (logParse (logBodyOf b)).1.2 = ([], logFault (logParse (logBodyOf b)).2 (logParse (logBodyOf b)).1.2) := if_pos f
    rw [e]
    exact ⟨fun _ => logRead_no (.inr (.inr (.inr f))), fun k => absurd (.inl f) k⟩
theorem logLoad_len (b : List Int) : (logLoad b).2.1.length ≤ 80 := by
  by_cases h : b.length < 12
  · rw [logLoad_short h]; simp
  by_cases h2 : (polyOf (unI (logBodyOf b))).1 = sumOf (logTail b)
  · rw [logLoad_read h h2]
    by_cases k : (logParse (logBodyOf b)).1.1.2 = true ∨ (logParse (logBodyOf b)).1.1.1 ≠ [] ∨ unI ((logBodyOf b).take 4) ≠ logHead ∨ logFault (logParse (logBodyOf b)).2 (logParse (logBodyOf b)).1.2 ≠ 0
    · rw [logRead_no k]; simp
    · rw [logRead_yes k]
      have f : logFault (logParse (logBodyOf b)).2 (logParse (logBodyOf b)).1.2 = 0 := Classical.not_not.1 fun w => k (.inr (.inr (.inr w)))
      have := (logFault_ok f).2.1
      simp only
      omega
  · rw [logLoad_sum h h2]; simp
end
end Go.Fu
