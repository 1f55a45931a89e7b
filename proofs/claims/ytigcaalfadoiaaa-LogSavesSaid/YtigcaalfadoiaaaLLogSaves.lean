/- The contracts of the functions that the law reaches, and that of the law. Conditions: none. -/
import Derived.Test.YtigcaalfadoiaaaWLogSaves
set_option linter.unusedVariables false
set_option linter.unusedSimpArgs false
set_option maxRecDepth 100000
namespace Go.Proofs.Ytigcaalfadoiaaa
open Go.Vc Go.Fu

theorem log_fault_hC : Cons Try.prog [] := trivial
theorem log_fault_con : Con Try.prog f_log_fault log_fault_ct := log_fault_vc log_fault_hC fun s l _ => by
  simp only [inI_iff, true_and, and_true, ne_eq, Int.reduceEq, not_false_eq_true, Int.toNat_zero]
  refine ⟨fun h => (logFault_big (h.elim (fun c => .inl (by omega)) fun c => .inr (.inl (by omega)))).symm, fun hb => ⟨fun x => 0 ≤ x ∧ x ≤ l.length ∧ ∀ j : Int, 0 ≤ j → j < x → ¬ 600 < ((gt l j).2.2.2.length : Int), fun x => (l.length - x).toNat, ⟨by omega, by omega, fun j a b => by omega⟩, ?_⟩⟩
  rintro x ⟨h0, h1, h2⟩
  dsimp only
  refine ⟨fun t => ⟨h0, t, fun c => (logFault_big (.inr (.inr ⟨_, gt_mem h0 t, by omega⟩))).symm, fun c => ⟨by omega, ⟨by omega, by omega, fun j a b => ?_⟩, by omega⟩⟩, fun t => ?_⟩
  · by_cases e : j = x
    · subst e; exact c
    · exact h2 j a (by omega)
  have hx : x = l.length := by omega
  subst hx
  rw [logFault_small hb h2]
  refine ⟨fun x => 0 ≤ x ∧ x ≤ l.length ∧ deedsFault l = deedsFault (l.drop x.toNat), fun x => (l.length - x).toNat, ⟨by omega, by omega, by simp⟩, ?_⟩
  rintro x ⟨g0, g1, g2⟩
  dsimp only
  rw [g2]
  refine ⟨fun t => ?_, fun t => by rw [List.drop_of_length_le (by omega)]; rfl⟩
  refine ⟨g0, t, fun c => ?_, fun c => ⟨fun d => ?_, fun d => ⟨fun e => ⟨fun f => ?_, fun f => ?_⟩, fun e => ?_⟩⟩⟩
  · exact (deeds_bad g0 t (df_kind c) (by omega)).symm
  · exact (deeds_bad g0 t (df_form c d) (by omega)).symm
  · exact (deeds_bad g0 t (df_range c d (by omega)) (by omega)).symm
  · exact ⟨by omega, ⟨by omega, by omega, deeds_good g0 t (df_fine c d (by omega))⟩, by omega⟩
  · exact (deeds_bad g0 t (df_range c d (by omega)) (by omega)).symm

theorem poly_Of_hC : Cons Try.prog [] := trivial
theorem poly_Of_con : Con Try.prog f_poly_Of poly_Of_ct := poly_Of_vc poly_Of_hC fun s hs => by
  simp only [inI_iff, true_and, and_true, ne_eq, Int.reduceEq, not_false_eq_true, Int.toNat_zero]
  refine ⟨fun x a b => 0 ≤ x ∧ x ≤ s.length ∧ (a, b) = polyOf (s.take x.toNat), fun x _ _ => (s.length - x).toNat, by simp [polyOf], fun x a b ⟨h0, h1, h2⟩ => ?_⟩
  dsimp only
  refine ⟨fun h => ?_, fun h => ?_⟩
  · have bd := polyOf_bd (s.take x.toNat)
    rw [← h2] at bd
    simp only at bd
    have hb := byte_lt (gt s x)
    have hb0 := byte_nn (gt s x)
    unfold fitS at hs
    rw [Int.tmod_eq_emod_of_nonneg (by omega), Int.tmod_eq_emod_of_nonneg (by omega)]
    refine ⟨by omega, h0, h, by omega, by omega, by omega, by omega, ⟨by omega, by omega, ?_⟩, by omega⟩
    rw [take_gt h0 h, polyOf_snoc, ← h2]
    rfl
  · rw [h2, List.take_of_length_le (by omega)]

theorem log_Save_hC : Cons Try.prog [(f_log_fault, log_fault_ct), (f_poly_Of, poly_Of_ct)] := ⟨log_fault_con, poly_Of_con, trivial⟩
theorem log_Save_con : Con Try.prog f_log_Save log_Save_ct := log_Save_vc log_Save_hC fun s l _ => by
  refine ⟨trivial, fun h => ?_, fun h => ?_⟩
  · simp [logSave, h]
  have h0 : logFault s l = 0 := by simpa using h
  obtain ⟨h1, h2, h3⟩ := logFault_ok h0
  have h4 := fun n => deeds_take_len (fun d hd => (h3 d hd).1) n
  have h5 := pre_len s l
  simp only [w4]
  simp only [w2]
  simp only [w1, w0, wh, wu, ← ints_append, ints_length, List.length_append, num2_len, unI_ints]
  have e0 : logHead.length = 4 := rfl
  refine ⟨by omega, by omega, by omega, by omega, by omega, by omega, fun x b => 0 ≤ x ∧ x ≤ l.length ∧ b = ints (preBytes s l ++ deedsBytes (l.take x.toNat)), fun x _ => (l.length - x).toNat, ⟨by omega, by omega, by simp [preBytes, deedsBytes]⟩, ?_⟩
  rintro x b ⟨i0, i1, rfl⟩
  refine ⟨fun hx => ?_, fun hx => ?_⟩
  · have h6 := h4 x.toNat
    have h7 := (h3 _ (gt_mem i0 hx)).1
    have h8 := deedsBytes_succ i0 hx
    simp only [← ints_append, ints_length, List.length_append, num2_len, List.length_cons, List.length_nil]
    refine ⟨i0, hx, by omega, fun k => ⟨by omega, by omega, trivial, trivial, by omega, by omega, trivial, by omega, by omega, by omega, by unfold inI64; omega, ⟨by omega, by omega, ?_⟩, by omega⟩, fun k => ⟨by unfold inI64; omega, ⟨by omega, by omega, ?_⟩, by omega⟩⟩
    · rw [h8, deedBytes, if_pos k]
      simp only [List.append_assoc, List.cons_append, List.nil_append]
    · rw [h8, deedBytes, if_neg k]
      simp only [List.append_assoc]
  · have hxe : x = l.length := by omega
    subst hxe
    have h6 := h4 l.length
    have e1 : preBytes s l ++ deedsBytes (l.take (l.length : Int).toNat) = logBody s l := by
      rw [Int.toNat_natCast, List.take_length]; rfl
    rw [e1]
    have h9 : (logBody s l).length ≤ 60000 := by
      rw [← e1, List.length_append, Int.toNat_natCast]; omega
    simp only [unI_ints, ← ints_append, ints_length]
    refine ⟨?_, by omega, by omega, by omega, by omega, ?_, ?_⟩
    · unfold fitS; omega
    · simp [logSave, h0, saved]
    · simp [logSave, h0]

theorem ref_LogFault_hC : Cons Try.prog [] := trivial
theorem ref_LogFault_con : Con Try.prog f_ref_LogFault ref_LogFault_ct := ref_LogFault_vc ref_LogFault_hC fun s l _ => by
  simp only [inI_iff, true_and, and_true, ne_eq, Int.reduceEq, not_false_eq_true, Int.toNat_zero]
  refine ⟨fun h => (logFault_big (h.elim (fun c => .inl (by omega)) fun c => .inr (.inl (by omega)))).symm, fun hb => ⟨fun x => 0 ≤ x ∧ x ≤ l.length ∧ ∀ j : Int, 0 ≤ j → j < x → ¬ 600 < ((gt l j).2.2.2.length : Int), fun x => (l.length - x).toNat, ⟨by omega, by omega, fun j a b => by omega⟩, ?_⟩⟩
  rintro x ⟨h0, h1, h2⟩
  dsimp only
  refine ⟨fun t => ⟨h0, t, fun c => (logFault_big (.inr (.inr ⟨_, gt_mem h0 t, by omega⟩))).symm, fun c => ⟨by omega, ⟨by omega, by omega, fun j a b => ?_⟩, by omega⟩⟩, fun t => ?_⟩
  · by_cases e : j = x
    · subst e; exact c
    · exact h2 j a (by omega)
  have hx : x = l.length := by omega
  subst hx
  rw [logFault_small hb h2]
  refine ⟨fun x => 0 ≤ x ∧ x ≤ l.length ∧ deedsFault l = deedsFault (l.drop x.toNat), fun x => (l.length - x).toNat, ⟨by omega, by omega, by simp⟩, ?_⟩
  rintro x ⟨g0, g1, g2⟩
  dsimp only
  rw [g2]
  refine ⟨fun t => ?_, fun t => by rw [List.drop_of_length_le (by omega)]; rfl⟩
  refine ⟨g0, t, fun c => ?_, fun c => ⟨fun d => ?_, fun d => ⟨fun f => ?_, fun f => ?_⟩⟩⟩
  · exact (deeds_bad g0 t (df_kind c) (by omega)).symm
  · exact (deeds_bad g0 t (df_form c d) (by omega)).symm
  · exact (deeds_bad g0 t (df_range c d (by omega)) (by omega)).symm
  · exact ⟨by omega, ⟨by omega, by omega, deeds_good g0 t (df_fine c d (by omega))⟩, by omega⟩

theorem ref_PolyOf_hC : Cons Try.prog [] := trivial
theorem ref_PolyOf_con : Con Try.prog f_ref_PolyOf ref_PolyOf_ct := ref_PolyOf_vc ref_PolyOf_hC fun s hs => by
  simp only [inI_iff, true_and, and_true, ne_eq, Int.reduceEq, not_false_eq_true, Int.toNat_zero]
  unfold fitS at hs
  refine ⟨by omega, fun p q i => -1 ≤ i ∧ i < s.length ∧ (q, p) = polyOf (s.drop (i + 1).toNat), fun _ _ i => (i + 1).toNat, ⟨by omega, by omega, ?_⟩, fun p q i ⟨h0, h1, h2⟩ => ?_⟩
  · rw [List.drop_of_length_le (by omega)]; rfl
  dsimp only
  refine ⟨fun h => ?_, fun h => ?_⟩
  · have bd := polyOf_bd (s.drop (i + 1).toNat)
    rw [← h2] at bd
    simp only at bd
    have hb := byte_lt (gt s i)
    have hb0 := byte_nn (gt s i)
    have m : 0 ≤ ((gt s i).toNat + 1 : Int) * p ∧ ((gt s i).toNat + 1 : Int) * p ≤ 4611686009837453316 := mulB (by omega) (by omega) bd.2.2.1 bd.2.2.2
    rw [Int.tmod_eq_emod_of_nonneg (by omega), Int.tmod_eq_emod_of_nonneg (by omega)]
    refine ⟨h, h1, by omega, by omega, by omega, by omega, by omega, ⟨by omega, by omega, ?_⟩, by omega⟩
    rw [show i - 1 + 1 = i by omega, drop_gt h h1, polyOf_cons, ← h2]
    exact Prod.ext (by simp only; omega) rfl
  · rw [h2, show (i + 1).toNat = 0 by omega, List.drop_zero]

theorem ref_twoBytes_hC : Cons Try.prog [] := trivial
theorem ref_twoBytes_con : Con Try.prog f_ref_twoBytes ref_twoBytes_ct := ref_twoBytes_vc ref_twoBytes_hC fun n ⟨h, h'⟩ => by
  simp only [inI_iff, true_and, and_true, ne_eq, Int.reduceEq, not_false_eq_true, Int.toNat_zero, inI_iff] at *
  rw [Int.tdiv_eq_ediv_of_nonneg h, Int.tmod_eq_emod_of_nonneg h]
  simp only [num2, wrap8, by8_mod, unb, List.map_cons, List.map_nil, and_true]
  omega

theorem ref_LogSaved_hC : Cons Try.prog [(f_ref_LogFault, ref_LogFault_ct), (f_ref_PolyOf, ref_PolyOf_ct), (f_ref_twoBytes, ref_twoBytes_ct)] := ⟨ref_LogFault_con, ref_PolyOf_con, ref_twoBytes_con, trivial⟩
theorem ref_LogSaved_con : Con Try.prog f_ref_LogSaved ref_LogSaved_ct := ref_LogSaved_vc ref_LogSaved_hC fun s l _ => by
  simp only [inI_iff, true_and, and_true, ne_eq, Int.reduceEq, not_false_eq_true, Int.toNat_zero, logSave]
  refine ⟨fun c => by rw [if_pos c]; exact ⟨rfl, rfl⟩, fun c => ?_⟩
  have hf : logFault s l = 0 := Classical.not_not.1 c
  obtain ⟨k1, k2, k3⟩ := logFault_ok hf
  rw [if_neg c]
  simp only [inI_iff, num2_len, List.length_append, List.length_cons, List.length_nil, List.length_map]
  refine ⟨by omega, by omega, by omega, by omega, by omega, fun out x => 0 ≤ x ∧ x ≤ l.length ∧ out = logHead ++ num2 s.length ++ s ++ num2 l.length ++ deedsBytes (l.take x.toNat), fun _ x => (l.length - x).toNat, ⟨by omega, by omega, by simp [deedsBytes, logHead]⟩, ?_⟩
  rintro out x ⟨h0, h1, h2⟩
  dsimp only
  have hlen : out.length ≤ 608 + 607 * l.length := by
    have := deedsBytes_len (l := l.take x.toNat) fun d hd => (k3 d (List.mem_of_mem_take hd)).1
    rw [h2]
    simp only [List.length_append, num2_len, logHead, List.length_cons, List.length_nil]
    have := List.length_take_le x.toNat l
    omega
  refine ⟨fun t => ?_, fun t => ?_⟩
  · have hd := k3 _ (gt_mem h0 t)
    have ho := deedFault_ok hd.2
    refine ⟨h0, t, by omega, fun e => ?_, fun e => ?_⟩
    · and_intros <;> first | omega | skip
      rw [deedsBytes_succ h0 t, h2]
      simp [deedBytes, e, wrap8]
    · and_intros <;> first | omega | skip
      rw [deedsBytes_succ h0 t, h2]
      simp [deedBytes, e, wrap8]
  · have e : out = logBody s l := by rw [h2, List.take_of_length_le (by omega)]; rfl
    have hb := polyOf_bd out
    have g4 := num4_two hb.1
    rw [Int.tdiv_eq_ediv_of_nonneg hb.1, Int.tmod_eq_emod_of_nonneg hb.1] at g4 ⊢
    and_intros <;> first | omega | (simp only [fitS]; omega) | trivial | skip
    rw [List.append_assoc, g4, e]
    rfl

theorem law_sameBytes_hC : Cons Try.prog [] := trivial
theorem law_sameBytes_con : Con Try.prog f_law_sameBytes law_sameBytes_ct := law_sameBytes_vc law_sameBytes_hC fun a b h => by
  simp only [inI_iff, true_and, and_true, ne_eq, Int.reduceEq, not_false_eq_true, Int.toNat_zero, false_bo, true_bo, fitL] at *
  refine ⟨fun q e => q (by rw [e]), fun q => ⟨fun i => 0 ≤ i ∧ i ≤ a.length ∧ ∀ j : Int, 0 ≤ j → j < i → gt a j = gt b j, fun i => (a.length - i).toNat, ⟨by omega, by omega, fun j h1 h2 => by omega⟩, fun i ⟨h0, h1, h2⟩ => ?_⟩⟩
  dsimp only
  refine ⟨fun r => ⟨h0, r, h0, by omega, fun t e => t (by rw [e]), fun t => ⟨by omega, ⟨by omega, by omega, fun j j0 j1 => ?_⟩, by omega⟩⟩, fun r => ?_⟩
  · by_cases e : j = i
    · rw [e]; exact Classical.byContradiction t
    · exact h2 j j0 (by omega)
  · exact ext_gt (by omega) fun j j0 j1 => h2 j j0 (by omega)

theorem law_LogSaves_hC : Cons Try.prog [(f_log_Save, log_Save_ct), (f_ref_LogSaved, ref_LogSaved_ct), (f_law_sameBytes, law_sameBytes_ct)] := ⟨log_Save_con, ref_LogSaved_con, law_sameBytes_con, trivial⟩
theorem law_LogSaves_con : Con Try.prog f_law_LogSaves law_LogSaves_ct := law_LogSaves_vc law_LogSaves_hC fun s l _ => by
  have h := logSave_len s l
  have h2 : fitL (logSave s l).1 := by unfold fitL; omega
  exact ⟨trivial, trivial, ⟨h2, h2⟩, by simp⟩

end Go.Proofs.Ytigcaalfadoiaaa
