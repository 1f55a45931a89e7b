/- The contracts of the functions that the law reaches, and that of the law. Conditions: none. -/
import Derived.Test.YtigcaalfadoiaaaWLogLoads
set_option linter.unusedVariables false
set_option linter.unusedSimpArgs false
set_option maxRecDepth 100000
namespace Go.Proofs.Ytigcaalfadoiaaa
open Go.Vc Go.Fu

theorem poly_Of_hC : Cons Try.prog [] := trivial
theorem poly_Of_con : Con Try.prog f_poly_Of poly_Of_ct := poly_Of_vc poly_Of_hC fun s hs => by
  simp only [inI_iff, true_and, and_true, ne_eq, Int.reduceEq, not_false_eq_true, Int.toNat_zero]
  refine ⟨fun x a b => 0 ≤ x ∧ x ≤ s.length ∧ (a, b) = polyOf (s.take x.toNat), fun x _ _ => (s.length - x).toNat, by simp [polyOf], fun x a b ⟨h0, h1, h2⟩ => ?_⟩
  dsimp only
  refine ⟨fun h => ?_, fun h => ?_⟩
  · have bd := polyOf_bd (s.take x.toNat)
    rw [← h2] at bd
    simp only at bd
    have hb := byte_lt (gt s x)
    have hb0 := byte_nn (gt s x)
    unfold fitS at hs
    rw [Int.tmod_eq_emod_of_nonneg (by omega), Int.tmod_eq_emod_of_nonneg (by omega)]
    refine ⟨by omega, h0, h, by omega, by omega, by omega, by omega, ⟨by omega, by omega, ?_⟩, by omega⟩
    rw [take_gt h0 h, polyOf_snoc, ← h2]
    rfl
  · rw [h2, List.take_of_length_le (by omega)]

theorem log_fault_hC : Cons Try.prog [] := trivial
theorem log_fault_con : Con Try.prog f_log_fault log_fault_ct := log_fault_vc log_fault_hC fun s l _ => by
  simp only [inI_iff, true_and, and_true, ne_eq, Int.reduceEq, not_false_eq_true, Int.toNat_zero]
  refine ⟨fun h => (logFault_big (h.elim (fun c => .inl (by omega)) fun c => .inr (.inl (by omega)))).symm, fun hb => ⟨fun x => 0 ≤ x ∧ x ≤ l.length ∧ ∀ j : Int, 0 ≤ j → j < x → ¬ 600 < ((gt l j).2.2.2.length : Int), fun x => (l.length - x).toNat, ⟨by omega, by omega, fun j a b => by omega⟩, ?_⟩⟩
  rintro x ⟨h0, h1, h2⟩
  dsimp only
  refine ⟨fun t => ⟨h0, t, fun c => (logFault_big (.inr (.inr ⟨_, gt_mem h0 t, by omega⟩))).symm, fun c => ⟨by omega, ⟨by omega, by omega, fun j a b => ?_⟩, by omega⟩⟩, fun t => ?_⟩
  · by_cases e : j = x
    · subst e; exact c
    · exact h2 j a (by omega)
  have hx : x = l.length := by omega
  subst hx
  rw [logFault_small hb h2]
  refine ⟨fun x => 0 ≤ x ∧ x ≤ l.length ∧ deedsFault l = deedsFault (l.drop x.toNat), fun x => (l.length - x).toNat, ⟨by omega, by omega, by simp⟩, ?_⟩
  rintro x ⟨g0, g1, g2⟩
  dsimp only
  rw [g2]
  refine ⟨fun t => ?_, fun t => by rw [List.drop_of_length_le (by omega)]; rfl⟩
  refine ⟨g0, t, fun c => ?_, fun c => ⟨fun d => ?_, fun d => ⟨fun e => ⟨fun f => ?_, fun f => ?_⟩, fun e => ?_⟩⟩⟩
  · exact (deeds_bad g0 t (df_kind c) (by omega)).symm
  · exact (deeds_bad g0 t (df_form c d) (by omega)).symm
  · exact (deeds_bad g0 t (df_range c d (by omega)) (by omega)).symm
  · exact ⟨by omega, ⟨by omega, by omega, deeds_good g0 t (df_fine c d (by omega))⟩, by omega⟩
  · exact (deeds_bad g0 t (df_range c d (by omega)) (by omega)).symm

theorem __log_reader__number_hC : Cons Try.prog [] := trivial
theorem __log_reader__number_con : ConU Try.prog f___log_reader__number __log_reader__number_cu := __log_reader__number_vc __log_reader__number_hC fun r h => by
  refine ⟨fun c => ?_, fun c => ?_⟩
  · have c' : r.2 = true ∨ r.1.length < 2 := c.imp id (fun k => by omega)
    rw [rdNum_if c']
    have g0 : gt (List.replicate (min (2 : Int) 2).toNat (0 : Int)) 0 = 0 := rfl
    have g1 : gt (List.replicate (min (2 : Int) 2).toNat (0 : Int)) 1 = 0 := rfl
    rw [g0, g1, orB (by omega) (by omega) (by omega) (by omega)]
    have l0 : (List.replicate (min (2 : Int) 2).toNat (0 : Int)).length = 2 := rfl
    obtain ⟨i0, i0'⟩ := inI_mul (a := 0) (by omega) (by omega)
    obtain ⟨i1, i1'⟩ := inI_byte (a := 0) (by omega)
    have e := Prod.ext (x := (r.1, bo (r.2 = true ∨ (r.1.length : Int) < 2))) (y := (r.1, true)) rfl (bo_true.2 c)
    and_intros <;> first | assumption | rfl | omega
  · have c' : ¬ (r.2 = true ∨ r.1.length < 2) := fun k => c (k.imp id (fun k => by omega))
    have c2 : ¬ r.1.length < 2 := fun w => c' (.inr w)
    rw [rdNum_else c']
    have g0 := bytesOk_gt h.1 (i := 0) (by omega) (by omega)
    have g1 := bytesOk_gt h.1 (i := 1) (by omega) (by omega)
    have e0 : gt (List.drop (Int.toNat 0) (List.take (Int.toNat 2) r.1)) 0 = gt r.1 0 := gt_take (l := r.1) (k := 2) (by omega) (by omega)
    have e1 : gt (List.drop (Int.toNat 0) (List.take (Int.toNat 2) r.1)) 1 = gt r.1 1 := gt_take (l := r.1) (k := 2) (by omega) (by omega)
    rw [e0, e1, orB (by omega) (by omega) (by omega) (by omega)]
    have l0 : (List.drop (Int.toNat 0) (List.take (Int.toNat 2) r.1)).length = 2 := by
      show (List.take 2 r.1).length = 2
      rw [List.length_take]; omega
    obtain ⟨i0, i0'⟩ := inI_mul (a := gt r.1 0) (by omega) (by omega)
    obtain ⟨i1, i1'⟩ := inI_byte (a := gt r.1 0) (by omega)
    obtain ⟨i2, i2'⟩ := inI_byte (a := gt r.1 1) (by omega)
    have e := Prod.ext (x := (List.drop (Int.toNat 2) (List.take (r.1.length : Int).toNat r.1), bo (r.2 = true ∨ (r.1.length : Int) < 2))) (y := (r.1.drop 2, false)) (by
      show List.drop 2 (List.take (r.1.length : Int).toNat r.1) = r.1.drop 2
      rw [Int.toNat_natCast, List.take_length]) (bo_false.2 c)
    and_intros <;> first | assumption | rfl | omega

theorem __log_reader__text_hC : Cons Try.prog [] := trivial
theorem __log_reader__text_con : ConU Try.prog f___log_reader__text __log_reader__text_cu := __log_reader__text_vc __log_reader__text_hC __log_reader__number_con fun r h => by
  have h' := rdNum_rdOk h
  simp only [prod_eta]
  unfold rdText
  generalize rdNum r = y at *
  obtain ⟨⟨l, b⟩, n⟩ := y
  simp only at h' ⊢
  obtain ⟨h1, h2, h3⟩ := h'
  refine ⟨h, fun c => ?_, fun c => ?_⟩
  · rw [rdText1_if c]
    have e := Prod.ext (x := (l, bo (b = true ∨ (l.length : Int) < n))) (y := (l, true)) rfl (bo_true.2 c)
    have e2 : List.map (fun n : Int => UInt8.ofNat n.toNat) (List.replicate (min n 2).toNat 0) = List.replicate (min n 2).toNat 0 := by
      rw [List.map_replicate]; rfl
    and_intros <;> first | assumption | rfl | trivial | omega
  · rw [rdText1_else c]
    have c2 : ¬ (l.length : Int) < n := fun w => c (.inr w)
    have e := Prod.ext (x := (List.drop n.toNat (List.take (l.length : Int).toNat l), bo (b = true ∨ (l.length : Int) < n))) (y := (l.drop n.toNat, false)) (by
      show List.drop n.toNat (List.take (l.length : Int).toNat l) = l.drop n.toNat
      rw [Int.toNat_natCast, List.take_length]) (bo_false.2 c)
    and_intros <;> first | assumption | rfl | omega

theorem __log_reader__deed_hC : Cons Try.prog [] := trivial
theorem __log_reader__deed_con : ConU Try.prog f___log_reader__deed __log_reader__deed_cu := __log_reader__deed_vc __log_reader__deed_hC __log_reader__number_con __log_reader__text_con fun r h => by
  refine ⟨fun c => ?_, fun c => ?_⟩
  · have c' : r.2 = true ∨ r.1.length < 1 := c.imp id (fun k => by omega)
    rw [rdDeed_if c']
    have g0 : gt (List.replicate (min (1 : Int) 2).toNat (0 : Int)) 0 = 0 := rfl
    have l0 : (List.replicate (min (1 : Int) 2).toNat (0 : Int)).length = 1 := rfl
    rw [g0]
    have i1 := inI_byte (a := 0) (by omega)
    have e := Prod.ext (x := (r.1, bo (r.2 = true ∨ (r.1.length : Int) < 1))) (y := (r.1, true)) rfl (bo_true.2 c)
    and_intros <;> first | assumption | rfl | omega | (intro k; exact absurd k (by decide)) | exact fun _ => ⟨e, rfl⟩
  · have c' : ¬ (r.2 = true ∨ r.1.length < 1) := fun k => c (k.imp id (fun k => by omega))
    have c2 : ¬ r.1.length < 1 := fun w => c' (.inr w)
    have g0 := bytesOk_gt h.1 (i := 0) (by omega) (by omega)
    have i1 := inI_byte g0
    have e0 : gt (List.drop (Int.toNat 0) (List.take (Int.toNat 1) r.1)) 0 = gt r.1 0 := gt_take (l := r.1) (k := 1) (by omega) (by omega)
    have l0 : (List.drop (Int.toNat 0) (List.take (Int.toNat 1) r.1)).length = 1 := by
      show (List.take 1 r.1).length = 1
      rw [List.length_take]; omega
    have e := Prod.ext (x := (List.drop (Int.toNat 1) (List.take (r.1.length : Int).toNat r.1), bo (r.2 = true ∨ (r.1.length : Int) < 1))) (y := (r.1.drop 1, false)) (by
      show List.drop 1 (List.take (r.1.length : Int).toNat r.1) = r.1.drop 1
      rw [Int.toNat_natCast, List.take_length]) (bo_false.2 c)
    have hq : rdOk ((r.1.drop 1, false) : Rd) := ⟨bytesOk_drop h.1 _, by have := h.2; simp only [List.length_drop]; omega⟩
    have n1 := (rdNum_rdOk hq).1
    have n2 := (rdNum_rdOk n1).1
    rw [e0, e]
    simp only [prod_eta]
    refine ⟨by omega, by omega, by omega, by omega, by omega, by omega, by omega, by omega, i1, fun k => ?_, fun k => ?_⟩
    · rw [rdDeed_else c' k]
      exact ⟨hq, n1, n2, rfl, by rw [k]; rfl⟩
    · rw [rdDeed_else2 c' k]
      exact ⟨rfl, rfl⟩

theorem log_Load_hC : Cons Try.prog [(f_poly_Of, poly_Of_ct), (f_log_fault, log_fault_ct)] := ⟨poly_Of_con, log_fault_con, trivial⟩
theorem log_Load_con : Con Try.prog f_log_Load log_Load_ct := log_Load_vc log_Load_hC __log_reader__number_con __log_reader__text_con __log_reader__deed_con fun b h => by
  obtain ⟨hb, hf⟩ := h
  have hf' : (b.length : Int) ≤ 140737488351232 := by unfold fitL at hf; omega
  refine ⟨fun c => by rw [logLoad_short (by omega)]; exact ⟨rfl, rfl, rfl⟩, fun c => ?_⟩
  have c' : ¬ b.length < 12 := by omega
  have e1 : List.drop (Int.toNat 0) (List.take ((b.length : Int) - 4).toNat b) = logBodyOf b := by
    show List.take ((b.length : Int) - 4).toNat b = b.take (b.length - 4)
    congr 1; omega
  have lb : (logBodyOf b).length = b.length - 4 := by simp only [logBodyOf, List.length_take]; omega
  have e2 : List.drop (((logBodyOf b).length : Int)).toNat (List.take (b.length : Int).toNat b) = logTail b := by
    rw [Int.toNat_natCast, Int.toNat_natCast, List.take_length, lb]; rfl
  have e3 : List.drop (Int.toNat 4) (List.take ((logBodyOf b).length : Int).toNat (logBodyOf b)) = (logBodyOf b).drop 4 := by
    rw [Int.toNat_natCast, List.take_length]; rfl
  simp only [e1, e2, e3]
  have hbody : bytesOk (logBodyOf b) := bytesOk_take hb _
  have htail : bytesOk (logTail b) := bytesOk_drop hb _
  have tl : (logTail b).length = 4 := by simp only [logTail, List.length_drop]; omega
  refine ⟨by unfold inI64; omega, by omega, by omega, by omega, by omega, by omega, by omega, fun sum x => 0 ≤ x ∧ x ≤ 4 ∧ sum = sumOf ((logTail b).take x.toNat), fun _ x => (4 - x).toNat, ⟨by trivial, by omega, by omega, rfl⟩, ?_⟩
  rintro sum x ⟨x0, x1, rfl⟩
  refine ⟨fun hx => ?_, fun hx => ?_⟩
  · have bd := sumOf_bd4 (t := (logTail b).take x.toNat) (bytesOk_take htail _) (by rw [List.length_take]; omega)
    have gb := bytesOk_gt htail x0 hx
    have es := sumOf_take x0 hx
    rw [orB bd.1 (by omega) gb.1 gb.2]
    exact ⟨x0, hx, by omega, inI_mul bd.1 (by omega), inI_byte gb, by unfold inI64; omega, by trivial, ⟨by omega, by omega, es.symm⟩, by dsimp only; omega⟩
  have et : (logTail b).take x.toNat = logTail b := List.take_of_length_le (by omega)
  rw [et]
  refine ⟨by simp only [fitS, List.length_map]; omega, fun d => by rw [logLoad_sum c' d]; exact ⟨rfl, rfl, rfl⟩, fun d => ?_⟩
  have d' : (polyOf (unI (logBodyOf b))).1 = sumOf (logTail b) := Classical.not_not.1 d
  rw [logLoad_read c' d']
  simp only [prod_eta]
  have hr : rdOk ((logBodyOf b).drop 4, false) := ⟨bytesOk_drop hbody _, by simp only [List.length_drop]; omega⟩
  have h1 := rdText_rdOk hr
  obtain ⟨h2, h3, h4⟩ := rdNum_rdOk h1
  refine ⟨by omega, by omega, by omega, hr, h1, fun n l r bad => rdOk (r, bad) ∧ 0 ≤ n ∧ l.length + n = (rdNum (rdText ((logBodyOf b).drop 4, false)).1).2 ∧ rdDeeds n.toNat (r, bad) l = (logParse (logBodyOf b)).1, fun n _ _ _ => n.toNat, ⟨h2, h3, by simp, rfl⟩, ?_⟩
  rintro n l r bad ⟨i1, i2, i3, i4⟩
  refine ⟨fun ⟨n0, nb⟩ => ⟨i1, by omega, by unfold inI64; omega, ⟨rdDeed_rdOk i1, by omega, by simp only [List.length_append, List.length_cons, List.length_nil]; omega, (rdDeeds_pos n0 nb).symm.trans i4⟩, by dsimp only; omega⟩, fun hx => ?_⟩
  have e4 := (rdDeeds_exit hx).symm.trans i4
  refine ⟨fun _ => by omega, fun _ => by omega, fun _ => by omega, fun _ => trivial, fun k => ?_, fun k => ?_⟩
  · rw [logRead_no (by
      rw [← e4]
      rcases k with ((k | k) | k) | k
      · exact .inl k
      · exact .inr (.inl (fun w => by have w : r = [] := w; subst w; simp at k))
      · exact .inr (.inr (.inl k))
      · exact .inr (.inr (.inr k)))]
    exact ⟨rfl, rfl, rfl⟩
  · have k1 := fun w => k (.inl (.inl (.inl w)))
    have k2 : ¬ 0 < (r.length : Int) := fun w => k (.inl (.inl (.inr w)))
    have k3 := fun w => k (.inl (.inr w))
    have k4 := fun w => k (.inr w)
    have k2' : r = [] := List.length_eq_zero_iff.1 (by omega)
    rw [logRead_yes (by
      rw [← e4]
      rintro (w | w | w | w)
      · exact k1 w
      · exact w k2'
      · exact k3 w
      · exact k4 w), ← e4]
    exact ⟨rfl, rfl, rfl⟩

theorem ref_PolyOf_hC : Cons Try.prog [] := trivial
theorem ref_PolyOf_con : Con Try.prog f_ref_PolyOf ref_PolyOf_ct := ref_PolyOf_vc ref_PolyOf_hC fun s hs => by
  simp only [inI_iff, true_and, and_true, ne_eq, Int.reduceEq, not_false_eq_true, Int.toNat_zero]
  unfold fitS at hs
  refine ⟨by omega, fun p q i => -1 ≤ i ∧ i < s.length ∧ (q, p) = polyOf (s.drop (i + 1).toNat), fun _ _ i => (i + 1).toNat, ⟨by omega, by omega, ?_⟩, fun p q i ⟨h0, h1, h2⟩ => ?_⟩
  · rw [List.drop_of_length_le (by omega)]; rfl
  dsimp only
  refine ⟨fun h => ?_, fun h => ?_⟩
  · have bd := polyOf_bd (s.drop (i + 1).toNat)
    rw [← h2] at bd
    simp only at bd
    have hb := byte_lt (gt s i)
    have hb0 := byte_nn (gt s i)
    have m : 0 ≤ ((gt s i).toNat + 1 : Int) * p ∧ ((gt s i).toNat + 1 : Int) * p ≤ 4611686009837453316 := mulB (by omega) (by omega) bd.2.2.1 bd.2.2.2
    rw [Int.tmod_eq_emod_of_nonneg (by omega), Int.tmod_eq_emod_of_nonneg (by omega)]
    refine ⟨h, h1, by omega, by omega, by omega, by omega, by omega, ⟨by omega, by omega, ?_⟩, by omega⟩
    rw [show i - 1 + 1 = i by omega, drop_gt h h1, polyOf_cons, ← h2]
    exact Prod.ext (by simp only; omega) rfl
  · rw [h2, show (i + 1).toNat = 0 by omega, List.drop_zero]

theorem ref_LogFault_hC : Cons Try.prog [] := trivial
theorem ref_LogFault_con : Con Try.prog f_ref_LogFault ref_LogFault_ct := ref_LogFault_vc ref_LogFault_hC fun s l _ => by
  simp only [inI_iff, true_and, and_true, ne_eq, Int.reduceEq, not_false_eq_true, Int.toNat_zero]
  refine ⟨fun h => (logFault_big (h.elim (fun c => .inl (by omega)) fun c => .inr (.inl (by omega)))).symm, fun hb => ⟨fun x => 0 ≤ x ∧ x ≤ l.length ∧ ∀ j : Int, 0 ≤ j → j < x → ¬ 600 < ((gt l j).2.2.2.length : Int), fun x => (l.length - x).toNat, ⟨by omega, by omega, fun j a b => by omega⟩, ?_⟩⟩
  rintro x ⟨h0, h1, h2⟩
  dsimp only
  refine ⟨fun t => ⟨h0, t, fun c => (logFault_big (.inr (.inr ⟨_, gt_mem h0 t, by omega⟩))).symm, fun c => ⟨by omega, ⟨by omega, by omega, fun j a b => ?_⟩, by omega⟩⟩, fun t => ?_⟩
  · by_cases e : j = x
    · subst e; exact c
    · exact h2 j a (by omega)
  have hx : x = l.length := by omega
  subst hx
  rw [logFault_small hb h2]
  refine ⟨fun x => 0 ≤ x ∧ x ≤ l.length ∧ deedsFault l = deedsFault (l.drop x.toNat), fun x => (l.length - x).toNat, ⟨by omega, by omega, by simp⟩, ?_⟩
  rintro x ⟨g0, g1, g2⟩
  dsimp only
  rw [g2]
  refine ⟨fun t => ?_, fun t => by rw [List.drop_of_length_le (by omega)]; rfl⟩
  refine ⟨g0, t, fun c => ?_, fun c => ⟨fun d => ?_, fun d => ⟨fun f => ?_, fun f => ?_⟩⟩⟩
  · exact (deeds_bad g0 t (df_kind c) (by omega)).symm
  · exact (deeds_bad g0 t (df_form c d) (by omega)).symm
  · exact (deeds_bad g0 t (df_range c d (by omega)) (by omega)).symm
  · exact ⟨by omega, ⟨by omega, by omega, deeds_good g0 t (df_fine c d (by omega))⟩, by omega⟩

theorem ref_twoBytes_hC : Cons Try.prog [] := trivial
theorem ref_twoBytes_con : Con Try.prog f_ref_twoBytes ref_twoBytes_ct := ref_twoBytes_vc ref_twoBytes_hC fun n ⟨h, h'⟩ => by
  simp only [inI_iff, true_and, and_true, ne_eq, Int.reduceEq, not_false_eq_true, Int.toNat_zero, inI_iff] at *
  rw [Int.tdiv_eq_ediv_of_nonneg h, Int.tmod_eq_emod_of_nonneg h]
  simp only [num2, wrap8, by8_mod, unb, List.map_cons, List.map_nil, and_true]
  omega

theorem ref_LogSaved_hC : Cons Try.prog [(f_ref_LogFault, ref_LogFault_ct), (f_ref_PolyOf, ref_PolyOf_ct), (f_ref_twoBytes, ref_twoBytes_ct)] := ⟨ref_LogFault_con, ref_PolyOf_con, ref_twoBytes_con, trivial⟩
theorem ref_LogSaved_con : Con Try.prog f_ref_LogSaved ref_LogSaved_ct := ref_LogSaved_vc ref_LogSaved_hC fun s l _ => by
  simp only [inI_iff, true_and, and_true, ne_eq, Int.reduceEq, not_false_eq_true, Int.toNat_zero, logSave]
  refine ⟨fun c => by rw [if_pos c]; exact ⟨rfl, rfl⟩, fun c => ?_⟩
  have hf : logFault s l = 0 := Classical.not_not.1 c
  obtain ⟨k1, k2, k3⟩ := logFault_ok hf
  rw [if_neg c]
  simp only [inI_iff, num2_len, List.length_append, List.length_cons, List.length_nil, List.length_map]
  refine ⟨by omega, by omega, by omega, by omega, by omega, fun out x => 0 ≤ x ∧ x ≤ l.length ∧ out = logHead ++ num2 s.length ++ s ++ num2 l.length ++ deedsBytes (l.take x.toNat), fun _ x => (l.length - x).toNat, ⟨by omega, by omega, by simp [deedsBytes, logHead]⟩, ?_⟩
  rintro out x ⟨h0, h1, h2⟩
  dsimp only
  have hlen : out.length ≤ 608 + 607 * l.length := by
    have := deedsBytes_len (l := l.take x.toNat) fun d hd => (k3 d (List.mem_of_mem_take hd)).1
    rw [h2]
    simp only [List.length_append, num2_len, logHead, List.length_cons, List.length_nil]
    have := List.length_take_le x.toNat l
    omega
  refine ⟨fun t => ?_, fun t => ?_⟩
  · have hd := k3 _ (gt_mem h0 t)
    have ho := deedFault_ok hd.2
    refine ⟨h0, t, by omega, fun e => ?_, fun e => ?_⟩
    · and_intros <;> first | omega | skip
      rw [deedsBytes_succ h0 t, h2]
      simp [deedBytes, e, wrap8]
    · and_intros <;> first | omega | skip
      rw [deedsBytes_succ h0 t, h2]
      simp [deedBytes, e, wrap8]
  · have e : out = logBody s l := by rw [h2, List.take_of_length_le (by omega)]; rfl
    have hb := polyOf_bd out
    have g4 := num4_two hb.1
    rw [Int.tdiv_eq_ediv_of_nonneg hb.1, Int.tmod_eq_emod_of_nonneg hb.1] at g4 ⊢
    and_intros <;> first | omega | (simp only [fitS]; omega) | trivial | skip
    rw [List.append_assoc, g4, e]
    rfl

theorem ref_LogLoaded_1_hC : Cons Try.prog [] := trivial
theorem ref_LogLoaded_1_con : ConM Try.prog f_ref_LogLoaded_1 ref_LogLoaded_1_cm := ref_LogLoaded_1_vc ref_LogLoaded_1_hC fun at_ k over b h => by
  obtain ⟨h0, h1, h2, h3, h4⟩ := h
  simp only at h0 h1 h2 h3 h4
  refine ⟨by unfold inI64; omega, fun c => ?_, fun c => ?_⟩
  · rw [rfNum_if c]
    exact ⟨rfl, rfl, rfl, rfl, rfl⟩
  · rw [rfNum_else c]
    have g0 := bytesOk_gt h4 (i := at_) (by omega) (by omega)
    have g1 := bytesOk_gt h4 (i := at_ + 1) (by omega) (by omega)
    have e0 : at_ + 2 - 2 = at_ := by omega
    have e1 : at_ + 2 - 1 = at_ + 1 := by omega
    rw [e0, e1]
    and_intros <;> first | omega | rfl | (unfold inI64; omega)

theorem ref_LogLoaded_hC : Cons Try.prog [(f_ref_PolyOf, ref_PolyOf_ct), (f_ref_LogSaved, ref_LogSaved_ct)] := ⟨ref_PolyOf_con, ref_LogSaved_con, trivial⟩
theorem ref_LogLoaded_con : Con Try.prog f_ref_LogLoaded ref_LogLoaded_ct := ref_LogLoaded_vc ref_LogLoaded_hC ref_LogLoaded_1_con fun b h => by
  obtain ⟨hb, hf⟩ := h
  have hf' : (b.length : Int) ≤ 140737488351232 := by unfold fitL at hf; omega
  refine ⟨fun c => by rw [logLoad_short (by omega)]; exact ⟨rfl, rfl, rfl⟩, fun c => ?_⟩
  have c' : ¬ b.length < 12 := by omega
  have e1 : List.drop (Int.toNat 0) (List.take ((b.length : Int) - 4).toNat b) = logBodyOf b := by
    show List.take ((b.length : Int) - 4).toNat b = b.take (b.length - 4)
    congr 1; omega
  have lb : (logBodyOf b).length = b.length - 4 := by simp only [logBodyOf, List.length_take]; omega
  have e2 : List.drop ((b.length : Int) - 4).toNat (List.take (b.length : Int).toNat b) = logTail b := by
    rw [Int.toNat_natCast, List.take_length]
    show _ = b.drop (b.length - 4)
    congr 1; omega
  simp only [e1, e2]
  have hbody : bytesOk (logBodyOf b) := bytesOk_take hb _
  have htail : bytesOk (logTail b) := bytesOk_drop hb _
  have tl : (logTail b).length = 4 := by simp only [logTail, List.length_drop]; omega
  refine ⟨by unfold inI64; omega, by omega, by omega, by omega, fun sum x => 0 ≤ x ∧ x ≤ 4 ∧ sum = sumOf ((logTail b).take x.toNat), fun _ x => (4 - x).toNat, ⟨by trivial, by trivial, by omega, by omega, rfl⟩, ?_⟩
  rintro sum x ⟨x0, x1, rfl⟩
  refine ⟨fun hx => ?_, fun hx => ?_⟩
  · have bd := sumOf_bd4 (t := (logTail b).take x.toNat) (bytesOk_take htail _) (by rw [List.length_take]; omega)
    have gb := bytesOk_gt htail x0 hx
    have es := sumOf_take x0 hx
    exact ⟨x0, hx, by unfold inI64; omega, inI_byte gb, by unfold inI64; omega, by unfold inI64; omega, by trivial, by trivial, ⟨by omega, by omega, es.symm⟩, by dsimp only; omega⟩
  have et : (logTail b).take x.toNat = logTail b := List.take_of_length_le (by omega)
  rw [et]
  refine ⟨by omega, by omega, by omega, by simp only [fitS, List.length_map]; omega, fun d => by rw [logLoad_sum c' d]; exact ⟨rfl, rfl, rfl⟩, fun d => ?_⟩
  have d' : (polyOf (unI (logBodyOf b))).1 = sumOf (logTail b) := Classical.not_not.1 d
  have hp : rfPre (4, (b.length : Int) - 4, false, b) := ⟨by show (0 : Int) ≤ 4; omega, by show 4 ≤ (b.length : Int) - 4; omega, by show (b.length : Int) - 4 ≤ b.length; omega, by show b.length ≤ 140737488355328; omega, hb⟩
  have hbad : (logParse (logBodyOf b)).1.1.2 = true → logLoad b = ([], [], 4) := fun w => by rw [logLoad_read c' d', logRead_no (.inl w)]
  have er : rfRd (4, (b.length : Int) - 4, false, b) = ((logBodyOf b).drop 4, false) := by
    show ((b.take ((b.length : Int) - 4).toNat).drop 4, false) = ((b.take (b.length - 4)).drop 4, false)
    rw [show ((b.length : Int) - 4).toNat = b.length - 4 by omega]
  have ep : logParse (logBodyOf b) = (rdDeeds (rdNum (rdText (rfRd (4, (b.length : Int) - 4, false, b))).1).2.toNat (rdNum (rdText (rfRd (4, (b.length : Int) - 4, false, b))).1).1 [], (rdText (rfRd (4, (b.length : Int) - 4, false, b))).2) := by
    rw [er]; rfl
  obtain ⟨z1, z2, z3, z4, z5, z6, z7, -⟩ := rf_num hp
  obtain ⟨t1, t2⟩ := rf_text hp rfl
  refine ⟨hp, ?_⟩
  generalize rfNum (4, (b.length : Int) - 4, false, b) = z at *
  simp only at z2 z3 z5
  obtain ⟨zv, za, zk, zo, zb⟩ := z
  simp only at z1 z2 z3 z4 z5 z6 z7 t1 t2 ⊢
  subst z2 z3
  have za2 : za ≤ (zb.length : Int) - 4 := z1.2.1
  refine ⟨fun _ => by unfold inI64; omega, fun k => ?_, fun k => ?_⟩
  · have kb := hbad (by rw [ep]; exact rdDeeds_bad (rdNum_bad (t1 k)) _)
    refine ⟨z1, fun _ _ _ _ over _ => over = true, fun _ _ _ _ _ _ => 0, (rf_num (x := (za, (zb.length : Int) - 4, true, zb)) z1).2.2.2.1 rfl, ?_⟩
    rintro i num num_1 at_ over l ho
    exact ⟨fun w => absurd ho w.2, fun _ => ⟨fun _ => by rw [kb]; exact ⟨rfl, rfl, rfl⟩, fun w => absurd ho w⟩⟩
  obtain ⟨e3, p1⟩ := t2 k
  have zo2 : zo = false := by
    cases zo with
    | false => rfl
    | true => exact absurd (.inl rfl) k
  subst zo2
  have zs : za + zv ≤ (zb.length : Int) - 4 := p1.2.1
  obtain ⟨q1, q2, q3, -, q5, q6, q7, q8⟩ := rf_num p1
  obtain ⟨r8, r9⟩ := q8 rfl
  refine ⟨by unfold inI64; omega, by unfold inI64; omega, by omega, by omega, by omega, p1, ?_⟩
  rw [e3] at ep
  generalize rfNum (za + zv, (zb.length : Int) - 4, false, zb) = y at *
  obtain ⟨many, ya, yk, yo, yb⟩ := y
  clear q8
  simp only at q1 q2 q3 q5 q6 q7 r8 r9 ⊢
  subst q2 q3
  have ya2 : ya ≤ (yb.length : Int) - 4 := q1.2.1
  refine ⟨fun i num k at_ over l => yb = num ∧ (yb.length : Int) - 4 = k ∧ 4 ≤ at_ ∧ at_ ≤ (yb.length : Int) - 4 ∧ 0 ≤ i ∧ (l.length : Int) = i ∧ (over = true → logLoad yb = ([], [], 4)) ∧
      (over = false → i ≤ many ∧ rdDeeds (many - i).toNat (cutL yb ((yb.length : Int) - 4) at_, false) l = (logParse (logBodyOf yb)).1),
    fun i _ _ _ _ _ => (many - i).toNat, ⟨rfl, rfl, by omega, ya2, Int.le_refl 0, rfl, fun ho => hbad ?_, fun ho => ⟨q6, ?_⟩⟩, ?_⟩
  · rw [ep]
    exact rdDeeds_bad (by rw [r8, ho]) _
  · rw [ep, r9 ho, Int.sub_zero, ho]
  rintro i num k at_ over l ⟨rfl, rfl, a0, a1, i0, il, o1, o2⟩
  refine ⟨fun ⟨hi, ho⟩ => ?_, fun hx => ⟨fun ho => by rw [o1 ho]; exact ⟨rfl, rfl, rfl⟩, fun ho => ?_⟩⟩
  · have ho : over = false := by simpa using ho
    subst ho
    obtain ⟨-, e⟩ := o2 rfl
    rw [rdDeeds_pos (by omega) (fun w : false = true => Bool.false_ne_true w)] at e
    have hl := cutL_len (b := yb) (k := (yb.length : Int) - 4) (a := at_) (by omega) a1 (by omega)
    refine ⟨fun hk => ?_, fun hk => ?_⟩
    · rw [hbad (by rw [← e]; exact rdDeeds_bad (by rw [rdDeed_if (r := (cutL yb ((yb.length : Int) - 4) at_, false)) (.inr (by show (cutL yb ((yb.length : Int) - 4) at_).length < 1; omega))]) _)]
      exact ⟨rfl, rfl, rfl⟩
    have hn : ¬ ((cutL yb ((yb.length : Int) - 4) at_, false).2 = true ∨ (cutL yb ((yb.length : Int) - 4) at_, false).1.length < 1) := by
      rintro (w | w)
      · cases w
      · have w : (cutL yb ((yb.length : Int) - 4) at_).length < 1 := w
        omega
    have hg : gt (cutL yb ((yb.length : Int) - 4) at_, false).1 0 = gt yb at_ := by
      have := cutL_gt (b := yb) (k := (yb.length : Int) - 4) (a := at_) (j := 0) (by omega) (by omega) (by omega)
      rw [Int.add_zero] at this
      exact this
    have hd : (cutL yb ((yb.length : Int) - 4) at_).drop 1 = cutL yb ((yb.length : Int) - 4) (at_ + 1) := cutL_drop (n := 1) (by omega) (by omega)
    refine ⟨by omega, by omega, inI_byte (bytesOk_gt hb (by omega) (by omega)), by unfold inI64; omega, fun h1 => ?_, fun h1 => ?_⟩
    · rw [rdDeed_else hn (by rw [hg]; exact h1)] at e
      have hq : rfPre (at_ + 1, (yb.length : Int) - 4, false, yb) := ⟨by show 0 ≤ at_ + 1; omega, by show at_ + 1 ≤ (yb.length : Int) - 4; omega, by show (yb.length : Int) - 4 ≤ yb.length; omega, by show yb.length ≤ 140737488355328; omega, hb⟩
      have e : rdDeeds (many - i - 1).toNat (rdDeed1 (rfRd (at_ + 1, (yb.length : Int) - 4, false, yb))).1 (l ++ [(rdDeed1 (rfRd (at_ + 1, (yb.length : Int) - 4, false, yb))).2]) = (logParse (logBodyOf yb)).1 := by
        rw [← e]
        show _ = rdDeeds (many - i - 1).toNat (rdDeed1 ((cutL yb ((yb.length : Int) - 4) at_).drop 1, false)).1 (l ++ [(rdDeed1 ((cutL yb ((yb.length : Int) - 4) at_).drop 1, false)).2])
        rw [hd]
      obtain ⟨u1, u2⟩ := rf_deed hq rfl
      obtain ⟨v1, v2, v3, -, v5, -, -, -⟩ := rf_num hq
      obtain ⟨w1, w2, w3, -, w5, -, -, -⟩ := rf_num v1
      obtain ⟨x1, x2, x3, -, x5, x6, x7, -⟩ := rf_num w1
      refine ⟨hq, v1, w1, ?_⟩
      generalize rfNum (at_ + 1, (yb.length : Int) - 4, false, yb) = y1 at *
      generalize rfNum y1.2 = y2 at *
      generalize rfNum y2.2 = y3 at *
      rw [v2] at w2
      rw [v3] at w3
      rw [w2] at x2
      rw [w3] at x3
      simp only at v2 v3 v5 w2 w3 x2 x3
      obtain ⟨s0, s1, s2, s3, s4⟩ := x1
      rw [x2] at s1
      refine ⟨fun _ => by unfold inI64; omega, fun w => ⟨by omega, by unfold inI64; omega, ⟨x3.symm, x2.symm, by omega, s1, by omega, by simp only [List.length_append, List.length_cons, List.length_nil]; omega, fun _ => hbad (by rw [← e]; exact rdDeeds_bad (u1 w) _), fun w => (by cases w)⟩, by dsimp only; omega⟩, fun w => ?_⟩
      obtain ⟨u2, p2⟩ := u2 w
      have g1 : y3.2.1 + y3.1 ≤ y3.2.2.1 := p2.2.1
      rw [x2] at g1
      rw [x3]
      refine ⟨by unfold inI64; omega, by unfold inI64; omega, by omega, by omega, by omega, by omega, by unfold inI64; omega, ⟨rfl, x2.symm, by omega, g1, by omega, by simp only [List.length_append, List.length_cons, List.length_nil]; omega, fun o => absurd (.inl o) w, fun o => ⟨by omega, ?_⟩⟩, by dsimp only; omega⟩
      rw [← e, u2, h1, o, x2, x3, show many - (i + 1) = many - i - 1 by omega]
      unfold rfTxt
      rw [x3]
      rfl
    · rw [rdDeed_else2 hn (by rw [hg]; exact h1), hg] at e
      refine ⟨by omega, by unfold inI64; omega, ⟨rfl, rfl, by omega, by omega, by omega, by simp only [List.length_append, List.length_cons, List.length_nil]; omega, fun w => (by cases w), fun _ => ⟨by omega, ?_⟩⟩, by dsimp only; omega⟩
      rw [← e, show many - (i + 1) = many - i - 1 by omega]
      show _ = rdDeeds (many - i - 1).toNat ((cutL yb ((yb.length : Int) - 4) at_).drop 1, false) (l ++ [(gt yb at_, 0, 0, [])])
      rw [hd]
  · have ho : over = false := by simpa using ho
    subst ho
    obtain ⟨im, e⟩ := o2 rfl
    have hm : (many - i).toNat = 0 := by
      have : ¬ i < many := fun w => hx ⟨w, by decide⟩
      omega
    rw [hm, rdDeeds_zero] at e
    obtain ⟨f1, f2⟩ := load_save hb (by omega) d' (by rw [← e])
    have ez : (logParse (logBodyOf yb)).2 = rfTxt zv (za, (yb.length : Int) - 4, false, yb) := by rw [ep]
    rw [← e, ez] at f1 f2
    exact ⟨trivial, fun w => by rw [f1 w]; exact ⟨rfl, rfl, rfl⟩, fun w => by rw [f2 w]; exact ⟨rfl, rfl, rfl⟩⟩

theorem law_sameDeeds_hC : Cons Try.prog [] := trivial
theorem law_sameDeeds_con : Con Try.prog f_law_sameDeeds law_sameDeeds_ct := law_sameDeeds_vc law_sameDeeds_hC fun a b h => by
  simp only [false_bo, true_bo]
  refine ⟨fun c e => c (by rw [e]), fun c => ⟨fun i => 0 ≤ i ∧ i ≤ a.length ∧ ∀ j, 0 ≤ j → j < i → gt a j = gt b j, fun i => (a.length - i).toNat, ⟨by omega, by omega, fun j h0 h1 => by omega⟩, ?_⟩⟩
  rintro i ⟨i0, i1, i2⟩
  have hl : (a.length : Int) ≤ 140737488351232 := by have := h.1; unfold fitL at this; omega
  refine ⟨fun hi => ⟨i0, hi, i0, by omega, fun d e => d (by rw [e]; exact ⟨rfl, rfl, rfl, rfl⟩), fun d => ⟨by unfold inI64; omega, ⟨by omega, by omega, fun j j0 j1 => ?_⟩, by dsimp only; omega⟩⟩, fun hi => ?_⟩
  · by_cases e : j = i
    · subst e
      obtain ⟨d1, d2, d3, d4⟩ := Classical.not_not.1 d
      exact Prod.ext d1 (Prod.ext d2 (Prod.ext d3 d4))
    · exact i2 j j0 (by omega)
  · exact ext_gt (by omega) fun j j0 j1 => i2 j j0 (by omega)

theorem law_LogLoads_hC : Cons Try.prog [(f_log_Load, log_Load_ct), (f_ref_LogLoaded, ref_LogLoaded_ct), (f_law_sameDeeds, law_sameDeeds_ct)] := ⟨log_Load_con, ref_LogLoaded_con, law_sameDeeds_con, trivial⟩
theorem law_LogLoads_con : Con Try.prog f_law_LogLoads law_LogLoads_ct := law_LogLoads_vc law_LogLoads_hC fun b h => by
  have hb : bytesOk b := fun x hx => by
    obtain ⟨h1, h2⟩ := h.2 x hx
    have e1 : IntKind.u8.min = 0 := by rfl
    have e2 : IntKind.u8.max = 255 := by rfl
    omega
  have hf : fitL b := by unfold fitL; have := h.1; omega
  have hl : fitL (logLoad b).2.1 := by unfold fitL; have := logLoad_len b; omega
  refine ⟨⟨hb, hf⟩, ⟨hb, hf⟩, fun _ => ⟨hl, hl⟩, ?_⟩
  simp

end Go.Proofs.Ytigcaalfadoiaaa
