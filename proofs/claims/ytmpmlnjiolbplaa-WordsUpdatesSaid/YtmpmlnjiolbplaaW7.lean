/- Words of a text that is changed: the function itself. Conditions: none. -/
import Derived.Test.YtmpmlnjiolbplaaW6
set_option linter.unusedVariables false
set_option linter.unusedSimpArgs false
set_option maxRecDepth 100000
namespace Go.Proofs.Ytmpmlnjiolbplaa.U
open Go.Vc Go.Fu Go.Proofs.Ytmpmlnjiolbplaa.W
noncomputable def TQ (mv : WI → Option WI) (Q : List WI) : WTab := (Q.filterMap mv).foldl tabPut []
theorem TQ_some {mv : WI → Option WI} {Q : List WI} {x y : WI} (h : mv x = some y) : TQ mv (Q ++ [x]) = tabPut (TQ mv Q) y := by
  unfold TQ; rw [List.filterMap_append]; simp [h]
theorem TQ_none {mv : WI → Option WI} {Q : List WI} {x : WI} (h : mv x = none) : TQ mv (Q ++ [x]) = TQ mv Q := by
  unfold TQ; rw [List.filterMap_append]; simp [h]
theorem TQ_len (mv : WI → Option WI) (Q : List WI) (w : Bytes) : (tabGet (TQ mv Q) w).length ≤ Q.length :=
  Nat.le_trans (put_len _ _) (List.length_filterMap_le _ _)
theorem cells_e (e : Edit) : encA tEdit e = .agg [.int .i64 e.1, .int .i64 e.2.1, .str e.2.2] := rfl
set_option maxHeartbeats 2000000 in

theorem Update_walk (hP : Con Try.prog f_words_part words_part_ct) (hA : Con Try.prog f_words_Around words_Around_ct) (hU : Con Try.prog f_words_Update_1 words_Update_1_ct) (hC : Con Try.prog f_edit_Check edit_Check_ct) (hM : Con Try.prog f_edit_Made edit_Made_ct)
    {s : Bytes} {l : WTab} {e : Edit} (hs : fitS s) (hl : wtFit l) (he : editFits e) : HC Try.prog f_words_Update [.str s, encA (.sl tWord) l, .agg [.int .i64 e.1, .int .i64 e.2.1, .str e.2.2]] HM.nil fun r m' => (∃ c, r = .tup [.nils, .int .i64 c] ∧ wordsUpdate s l e = ([], c)) ∨ r = .tup [encA (.sl tWord) (wordsUpdate s l e).1, .int .i64 (wordsUpdate s l e).2] := by
  have hs' : s.length ≤ 140737488351232 := hs
  have hll : l.length ≤ 140737488351232 := hl.1
  obtain ⟨he1, he2, he3⟩ := id he
  have he3 : e.2.2.length ≤ 140737488351232 := he3
  intro S mf hS
  rw [HM.nil_add] at hS
  refine words_Update_ok.out rfl ?_ (by simp [words_Update_fi])
  unfold vcFun words_Update_fi
  dsimp only
  unfold words_Update_c
  dsimp only [argF]
  show vc _ _ _ [(0, .str s), (1, .ros l.length (l.flatMap (encT tWord))), (2, .agg [.int .i64 e.1, .int .i64 e.2.1, .str e.2.2])] S
  with_reducible (refine c_seq ?_)
  refine c_ops ?_
  refine r_op (o_box hS rfl fun v5 l5 S hS => s_no ?_)
  dsimp only [putF, rd, Frame.get]
  refine r_op (o_mov (s_no ?_))
  dsimp only [putF, rd, Frame.get]
  refine r_op (o_mov (s_no ?_))
  dsimp only [putF, rd, Frame.get]
  refine r_nil (c_keep ?_)
  dsimp only [List.map]
  dsimp only [putF, rd, Frame.get]
  with_reducible (refine on_n ?_; refine c_seq ?_; refine c_seq ?_)
  refine c_ops ?_
  refine r_op (o_mov (s_no ?_))
  dsimp only [putF, rd, Frame.get]
  refine r_op (o_len rfl (s_no ?_))
  dsimp only [putF, rd, Frame.get]
  refine r_op (o_bin rfl (by first | trivial | (unfold inI64; omega)) (s_no ?_))
  dsimp only [putF, rd, Frame.get]
  refine r_nil (c_keep ?_)
  dsimp only [List.map]
  dsimp only [putF, rd, Frame.get]
  with_reducible (refine on_n ?_)
  refine c_dec rfl (fun hc => ?_) (fun hc => ?_)
  · with_reducible (refine c_seq ?_)
    refine c_ops ?_
    refine r_op (o_mov (s_no ?_))
    dsimp only [putF, rd, Frame.get]
    refine r_op (o_mov (s_no ?_))
    dsimp only [putF, rd, Frame.get]
    refine r_nil (c_keep ?_)
    dsimp only [List.map]
    dsimp only [putF, rd, Frame.get]
    with_reducible (refine on_n ?_; refine c_ret ?_; refine on_r ?_)
    try dsimp only
    unfold words_Update_r
    refine w_tmp (w_tmp (w_nil ?_))
    dsimp only [retV, Frame.get]
    exact ⟨_, .inl ⟨1, rfl, by unfold wordsUpdate; rw [if_pos (by omega)]⟩, hS⟩
  have h6 : ¬ 600 < s.length := by omega
  have htl := tabOf_len s
  have hwf := wordsAll_fit (s := s)
  have hwa : wordsAll s = (WL (tabOf s), 0) := by unfold wordsAll; rw [if_neg h6]
  rw [hwa] at hwf
  with_reducible (refine c_skip ?_; refine on_n ?_; refine c_seq ?_)
  refine c_ops ?_
  refine r_op (o_mov (s_no ?_))
  dsimp only [putF, rd, Frame.get]
  refine r_nil (c_keep ?_)
  dsimp only [List.map]
  dsimp only [putF, rd, Frame.get]
  with_reducible (refine on_n ?_; refine c_seq ?_; refine c_seq ?_)
  refine c_ops ?_
  refine r_op (o_mov (s_no ?_))
  dsimp only [putF, rd, Frame.get]
  refine r_op (o_mov (s_no ?_))
  dsimp only [putF, rd, Frame.get]
  refine r_op (o_call ?_)
  dsimp only [List.map, putF, rd, Frame.get]
  refine (Of_walk hP s (by omega)).more hS fun r m' S h hS => ?_; obtain ⟨lm, vm, es, m, X, rfl, ht, rfl⟩ := h; have hS := hS.eq (m' := (pt lm (.mapo vm es) + m) + (X + (pt l5 (.row v5 0 [.int .i64 e.1, .int .i64 e.2.1, .str e.2.2]) + mf))) (by ac_rfl)
  refine s_no ?_
  refine r_op (o_call ?_)
  dsimp only [List.map, putF, rd, Frame.get]
  refine HC.use (ListF ht (tabOf_nodup s) (by omega) (fun x hx => by rw [tabOf_mem hx]; have := findW_len s x.1; omega) (tabFold_pos _ (fun x hx => by cases hx)) (lm := lm) (vm := vm)) hS ?_; rintro r m' S ⟨rfl, X2, rfl⟩ hS
  refine s_no ?_
  refine r_op (o_mov (s_no ?_))
  dsimp only [putF, rd, Frame.get]
  refine r_op (o_call ?_)
  dsimp only [List.map, putF, rd, Frame.get]
  refine (eqf_rc hU hl hwf).use ?_
  refine s_no ?_
  dsimp only [putF, rd, Frame.get]
  refine r_op (o_not rfl (s_no ?_))
  dsimp only [putF, rd, Frame.get]
  refine r_nil (c_keep ?_)
  dsimp only [List.map]
  dsimp only [putF, rd, Frame.get]
  with_reducible (refine on_n ?_)
  by_cases hlw : l = WL (tabOf s)
  rotate_left
  · rw [bo_false.2 hlw]
    refine c_bool (c := !false) rfl (fun _ => ?_) (fun h => by cases h)
    with_reducible (refine c_seq ?_)
    refine c_ops ?_
    refine r_op (o_mov (s_no ?_))
    dsimp only [putF, rd, Frame.get]
    refine r_op (o_mov (s_no ?_))
    dsimp only [putF, rd, Frame.get]
    refine r_nil (c_keep ?_)
    dsimp only [List.map]
    dsimp only [putF, rd, Frame.get]
    with_reducible (refine on_n ?_; refine c_ret ?_; refine on_r ?_)
    try dsimp only
    unfold words_Update_r
    refine w_tmp (w_tmp (w_nil ?_))
    dsimp only [retV, Frame.get]
    exact ⟨((pt lm (.mapo vm es) + m) + X2) + (X + pt l5 (.row v5 0 [.int .i64 e.1, .int .i64 e.2.1, .str e.2.2])), .inl ⟨4, rfl, by unfold wordsUpdate; rw [if_neg h6, if_pos hlw]⟩, hS.eq (by ac_rfl)⟩
  rw [bo_true.2 hlw]
  refine c_bool (c := !true) rfl (fun h => by cases h) (fun _ => ?_)
  have hS := hS.eq (m' := pt l5 (.row v5 0 [.int .i64 e.1, .int .i64 e.2.1, .str e.2.2]) + ((((pt lm (.mapo vm es) + m) + X2) + X) + mf)) (by ac_rfl)
  generalize (((pt lm (.mapo vm es) + m) + X2) + X) = G at hS
  clear ht
  with_reducible (refine c_skip ?_; refine on_n ?_; refine c_seq ?_; refine c_seq ?_)
  refine c_ops ?_
  refine r_op (o_mov (s_no ?_))
  dsimp only [putF, rd, Frame.get]
  refine r_op (o_len rfl (s_no ?_))
  dsimp only [putF, rd, Frame.get]
  refine r_op (o_load hS rfl rfl rfl rfl (s_no ?_))
  dsimp only [putF, rd, Frame.get]
  refine r_op (o_call ?_)
  dsimp only [List.map, putF, rd, Frame.get]
  refine hC.plain ((s.length : Int), e) ⟨by unfold inI64; omega, he⟩ rfl ?_; show splitG _ (.int .i64 (editFault s.length e)) _
  refine s_no ?_
  refine r_op (o_mov (s_no ?_))
  dsimp only [putF, rd, Frame.get]
  refine r_nil (c_keep ?_)
  dsimp only [List.map]
  dsimp only [putF, rd, Frame.get]
  with_reducible (refine on_n ?_; refine c_seq ?_)
  refine c_ops ?_
  refine r_op (o_mov (s_no ?_))
  dsimp only [putF, rd, Frame.get]
  refine r_op (o_bin rfl (by first | trivial | (unfold inI64; omega)) (s_no ?_))
  dsimp only [putF, rd, Frame.get]
  refine r_nil (c_keep ?_)
  dsimp only [List.map]
  dsimp only [putF, rd, Frame.get]
  with_reducible (refine on_n ?_)
  refine c_ndec rfl (fun hf => ?_) (fun hf => ?_)
  · with_reducible (refine c_seq ?_)
    refine c_ops ?_
    refine r_op (o_mov (s_no ?_))
    dsimp only [putF, rd, Frame.get]
    refine r_op (o_mov (s_no ?_))
    dsimp only [putF, rd, Frame.get]
    refine r_op (o_mov (s_no ?_))
    dsimp only [putF, rd, Frame.get]
    refine r_nil (c_keep ?_)
    dsimp only [List.map]
    dsimp only [putF, rd, Frame.get]
    with_reducible (refine on_n ?_; refine c_ret ?_; refine on_r ?_)
    try dsimp only
    unfold words_Update_r
    refine w_tmp (w_tmp (w_nil ?_))
    dsimp only [retV, Frame.get]
    exact ⟨pt l5 (.row v5 0 [.int .i64 e.1, .int .i64 e.2.1, .str e.2.2]) + G, .inl ⟨_, rfl, by unfold wordsUpdate; rw [if_neg h6, if_neg (by simpa using hlw), if_pos hf]⟩, hS.eq (by ac_rfl)⟩
  have hm : editMay s.length e := hf
  have hi := editMay_iff.1 hm
  have hml := editMade_len hm
  have hr : wordsUpdate s l e = (WL (tabOf (editMade s e)), 0) := by unfold wordsUpdate; rw [if_neg h6, if_neg (by simpa using hlw), if_neg (by simpa using hf)]
  obtain ⟨lo, hlo⟩ : ∃ lo, lo = arLo s e.1.toNat := ⟨_, rfl⟩
  obtain ⟨hi', hhi⟩ : ∃ hi', hi' = arHi s (e.1 + e.2.1).toNat := ⟨_, rfl⟩
  obtain ⟨by_, hby⟩ : ∃ by_ : Int, by_ = e.2.2.length - e.2.1 := ⟨_, rfl⟩
  have hup := update_list hm hlo hhi hby
  obtain ⟨u1, u2, u3, u4, u5, u6⟩ := update_perm hm hlo hhi hby
  with_reducible (refine c_skip ?_; refine on_n ?_; refine c_seq ?_)
  refine c_ops ?_
  refine r_op (o_mov (s_no ?_))
  dsimp only [putF, rd, Frame.get]
  refine r_op (o_faddr rfl (s_no ?_))
  dsimp only [putF, rd, Frame.get]
  simp only [Nat.zero_mul, Nat.mul_zero, Nat.mul_one, Nat.add_zero, Nat.zero_add, Nat.sub_zero, Nat.reduceAdd, Nat.reduceMul]
  refine r_op (o_load hS rfl rfl rfl rfl (s_no ?_))
  dsimp only [putF, rd, Frame.get]
  refine r_op (o_faddr rfl (s_no ?_))
  dsimp only [putF, rd, Frame.get]
  simp only [Nat.zero_mul, Nat.mul_zero, Nat.mul_one, Nat.add_zero, Nat.zero_add, Nat.sub_zero, Nat.reduceAdd, Nat.reduceMul]
  refine r_op (o_load hS rfl rfl rfl rfl (s_no ?_))
  dsimp only [putF, rd, Frame.get]
  refine r_op (o_faddr rfl (s_no ?_))
  dsimp only [putF, rd, Frame.get]
  simp only [Nat.zero_mul, Nat.mul_zero, Nat.mul_one, Nat.add_zero, Nat.zero_add, Nat.sub_zero, Nat.reduceAdd, Nat.reduceMul]
  refine r_op (o_load hS rfl rfl rfl rfl (s_no ?_))
  dsimp only [putF, rd, Frame.get]
  refine r_op (o_bin rfl (by first | trivial | (unfold inI64; omega)) (s_no ?_))
  dsimp only [putF, rd, Frame.get]
  refine r_op (o_call ?_)
  dsimp only [List.map, putF, rd, Frame.get]
  refine hA.plain (s, e.1, e.1 + e.2.1) ⟨hs, by show 0 ≤ e.1; omega, by show e.1 ≤ e.1 + e.2.1; omega, by show e.1 + e.2.1 ≤ s.length; omega⟩ rfl ?_; show splitG _ (.tup [.int .i64 (arLo s e.1.toNat : Int), .int .i64 (arHi s (e.1 + e.2.1).toNat : Int)]) _; rw [← hlo, ← hhi]
  refine s_no ?_
  refine r_op (o_mov (s_no ?_))
  dsimp only [putF, rd, Frame.get]
  refine r_op (o_extract rfl rfl (s_no ?_))
  dsimp only [putF, rd, Frame.get]
  refine r_op (o_extract rfl rfl (s_no ?_))
  dsimp only [putF, rd, Frame.get]
  refine r_op (o_mov (s_no ?_))
  dsimp only [putF, rd, Frame.get]
  refine r_op (o_mov (s_no ?_))
  dsimp only [putF, rd, Frame.get]
  refine r_nil (c_keep ?_)
  dsimp only [List.map]
  dsimp only [putF, rd, Frame.get]
  with_reducible (refine on_n ?_; refine c_seq ?_)
  refine c_ops ?_
  refine r_op (o_faddr rfl (s_no ?_))
  dsimp only [putF, rd, Frame.get]
  simp only [Nat.zero_mul, Nat.mul_zero, Nat.mul_one, Nat.add_zero, Nat.zero_add, Nat.sub_zero, Nat.reduceAdd, Nat.reduceMul]
  refine r_op (o_load hS rfl rfl rfl rfl (s_no ?_))
  dsimp only [putF, rd, Frame.get]
  refine r_op (o_len rfl (s_no ?_))
  dsimp only [putF, rd, Frame.get]
  refine r_op (o_faddr rfl (s_no ?_))
  dsimp only [putF, rd, Frame.get]
  simp only [Nat.zero_mul, Nat.mul_zero, Nat.mul_one, Nat.add_zero, Nat.zero_add, Nat.sub_zero, Nat.reduceAdd, Nat.reduceMul]
  refine r_op (o_load hS rfl rfl rfl rfl (s_no ?_))
  dsimp only [putF, rd, Frame.get]
  refine r_op (o_bin rfl (by first | trivial | (unfold inI64; omega)) (s_no ?_))
  dsimp only [putF, rd, Frame.get]
  refine r_op (o_mov (s_no ?_))
  dsimp only [putF, rd, Frame.get]
  refine r_nil (c_keep ?_)
  dsimp only [List.map]
  dsimp only [putF, rd, Frame.get]
  rw [← hby]
  with_reducible (refine on_n ?_; refine c_seq ?_)
  refine c_ops ?_
  refine r_op (o_mkmap hS fun v56 l56 S hS => s_no ?_)
  dsimp only [putF, rd, Frame.get]
  refine r_op (o_alloc hS fun v13 l13 S hS => s_no ?_)
  dsimp only [putF, rd, Frame.get]
  refine r_op (o_store hS rfl rfl rfl rfl (by simp) fun S hS => s_no ?_)
  dsimp only [putF, rd, Frame.get]
  dsimp only [putF, rd, Frame.get, setCells, over] at hS
  refine r_nil (c_keep ?_)
  dsimp only [List.map]
  dsimp only [putF, rd, Frame.get]
  with_reducible (refine on_n ?_; refine c_seq ?_; refine c_seq ?_)
  refine c_ops ?_
  refine r_op (o_mov (s_no ?_))
  dsimp only [putF, rd, Frame.get]
  refine r_op (o_len rfl (s_no ?_))
  dsimp only [putF, rd, Frame.get]
  refine r_op (o_mov (s_no ?_))
  dsimp only [putF, rd, Frame.get]
  refine r_nil (c_keep ?_)
  dsimp only [List.map]
  dsimp only [putF, rd, Frame.get]
  with_reducible (refine on_n ?_; refine c_block ?_)
  have hfl : (flatI l).length ≤ 600 := by
    rw [hlw, ((flatI_perm (WL_perm _)).trans (flatI_of s)).length_eq]
    have := fromW_len s
    unfold intE; rw [List.length_map]; omega
  obtain ⟨mv, hmv⟩ : ∃ mv, mv = moveW (lo : Int) (hi' : Int) by_ := ⟨_, rfl⟩
  rw [← hmv] at hup
  refine c_loop (fun n xs S => ∃ (j : Nat) (es : List (AVal × AVal)) (m X : HM), xs = [.int .i64 (j : Int)] ∧ j ≤ l.length ∧ n = l.length - j ∧ Tab (TQ mv (flatI (l.take j))) es m ∧ Has S (pt l13 (.row v13 0 [.map l56 v56]) + (pt l56 (.mapo v56 es) + (m + (pt l5 (.row v5 0 [.int .i64 e.1, .int .i64 e.2.1, .str e.2.2]) + (X + (G + mf))))))) l.length ⟨0, [], HM.nil, HM.nil, rfl, Nat.zero_le _, rfl, .nil, hS.eq (by rw [HM.nil_add, HM.nil_add])⟩ ?_
  clear hS
  rintro n xs S hl' ⟨j, es, m, X, rfl, hj, rfl, ht, hS⟩
  dsimp only [zipF, List.map, Frame.get]
  with_reducible (refine c_seq ?_)
  refine c_ops ?_
  refine r_op (o_bin rfl (by first | trivial | (unfold inI64; omega)) (s_no ?_))
  dsimp only [putF, rd, Frame.get]
  refine r_nil (c_keep ?_)
  dsimp only [List.map]
  dsimp only [putF, rd, Frame.get]
  with_reducible (refine on_n ?_; refine c_seq ?_)
  refine c_dec rfl (fun hlt => ?_) (fun hlt => ?_)
  · have hlt : j < l.length := by omega
    obtain ⟨⟨w, a⟩, hx⟩ : ∃ x, l[j]? = some x := ⟨_, List.getElem?_eq_getElem hlt⟩
    have tx := wcell_at hx
    have hal : a.length ≤ 140737488351232 := (hl.2 _ (List.mem_of_getElem? hx)).2
    have hfa := flat_at hx
    have hpre : ∀ i, i ≤ a.length → (flatI (l.take j) ++ (a.take i).map fun b => (w, b)).length ≤ 600 := fun i hi => by
      have h1 : (flatI (l.take (j + 1))).length ≤ (flatI l).length := by
        conv => rhs; rw [← List.take_append_drop (j + 1) l]
        unfold flatI; rw [List.flatMap_append, List.length_append]; omega
      rw [hfa] at h1
      simp only [List.length_append, List.length_map, List.length_take] at h1 ⊢
      omega
    with_reducible (refine c_skip ?_; refine on_n ?_; refine c_seq ?_; refine c_block ?_; refine c_seq ?_)
    refine c_ops ?_
    refine r_op (o_iaddrR rfl rfl (by omega) (by assumption) (s_no ?_))
    dsimp only [putF, rd, Frame.get]
    refine r_op (o_loadR rfl rfl rfl (s_no ?_))
    dsimp only [putF, rd, Frame.get]
    refine r_op (o_alloc hS fun v15 l15 S hS => s_no ?_)
    dsimp only [putF, rd, Frame.get]
    refine r_op ?_
    refine o_store hS rfl rfl rfl rfl (by simp) fun S hS => ?_; (try dsimp only [putF, rd, Frame.get, setCells, over] at hS)
    refine s_no ?_
    dsimp only [putF, rd, Frame.get]
    refine r_nil (c_keep ?_)
    dsimp only [List.map]
    dsimp only [putF, rd, Frame.get]
    with_reducible (refine on_n ?_; refine c_seq ?_)
    refine c_ops ?_
    refine r_op (o_faddr rfl (s_no ?_))
    dsimp only [putF, rd, Frame.get]
    simp only [Nat.zero_mul, Nat.mul_zero, Nat.mul_one, Nat.add_zero, Nat.zero_add, Nat.sub_zero, Nat.reduceAdd, Nat.reduceMul]
    refine r_op (o_load hS rfl rfl rfl rfl (s_no ?_))
    dsimp only [putF, rd, Frame.get]
    refine r_op (o_len rfl (s_no ?_))
    dsimp only [putF, rd, Frame.get]
    refine r_op (o_mov (s_no ?_))
    dsimp only [putF, rd, Frame.get]
    refine r_nil (c_keep ?_)
    dsimp only [List.map]
    dsimp only [putF, rd, Frame.get]
    with_reducible (refine on_n ?_; refine c_block ?_)
    refine c_loop (fun n xs S => ∃ (i : Nat) (es : List (AVal × AVal)) (m X : HM), xs = [.int .i64 (i : Int)] ∧ i ≤ a.length ∧ n = a.length - i ∧ Tab (TQ mv (flatI (l.take j) ++ (a.take i).map fun b => (w, b))) es m ∧ Has S (pt l15 (.row v15 0 [.str w, .ros a.length (a.flatMap (encT tI))]) + (pt l13 (.row v13 0 [.map l56 v56]) + (pt l56 (.mapo v56 es) + (m + (pt l5 (.row v5 0 [.int .i64 e.1, .int .i64 e.2.1, .str e.2.2]) + (X + (G + mf)))))))) a.length ⟨0, es, m, X, rfl, Nat.zero_le _, rfl, by simpa using ht, hS⟩ ?_
    clear hS ht
    rintro n xs S hl2 ⟨i, es, m, X, rfl, hi2, rfl, ht, hS⟩
    dsimp only [zipF, List.map, Frame.get]
    with_reducible (refine c_seq ?_)
    refine c_ops ?_
    refine r_op (o_bin rfl (by first | trivial | (unfold inI64; omega)) (s_no ?_))
    dsimp only [putF, rd, Frame.get]
    refine r_nil (c_keep ?_)
    dsimp only [List.map]
    dsimp only [putF, rd, Frame.get]
    with_reducible (refine on_n ?_; refine c_seq ?_)
    refine c_dec rfl (fun hilt => ?_) (fun hilt => ?_)
    rotate_left
    · obtain rfl : i = a.length := by omega
      rw [List.take_length, ← hfa] at ht
      with_reducible (refine c_exit ?_; refine on_e ?_; refine on_e ?_; refine ob_e ?_; refine ob_n ?_; refine on_n ?_)
      refine c_ops ?_
      refine r_op (o_bin rfl (by first | trivial | (unfold inI64; omega)) (s_no ?_))
      dsimp only [putF, rd, Frame.get]
      refine r_op (o_mov (s_no ?_))
      dsimp only [putF, rd, Frame.get]
      refine r_nil (c_keep ?_)
      dsimp only [List.map]
      dsimp only [putF, rd, Frame.get]
      with_reducible (refine on_n ?_)
      exact ⟨l.length - (j + 1), by omega, j + 1, es, m, pt l15 (.row v15 0 [.str w, .ros a.length (a.flatMap (encT tI))]) + X, rfl, by omega, rfl, ht, hS.eq (by ac_rfl)⟩
    have hilt : i < a.length := by omega
    obtain ⟨x, hxa⟩ : ∃ x, a[i]? = some x := ⟨_, List.getElem?_eq_getElem hilt⟩
    have txa := int_at hxa
    have htk : a.take (i + 1) = a.take i ++ [x] := by rw [List.take_add_one, hxa]; rfl
    have hstep : flatI (l.take j) ++ (a.take (i + 1)).map (fun b => (w, b)) = (flatI (l.take j) ++ (a.take i).map fun b => (w, b)) ++ [(w, x)] := by rw [htk, List.map_append, List.append_assoc]; rfl
    have hbd := TQ_len mv (flatI (l.take j) ++ (a.take i).map fun b => (w, b)) w
    have := hpre i hi2
    generalize flatI (l.take j) ++ (a.take i).map (fun b => (w, b)) = Q at *
    have hxl : x ∈ a := List.mem_of_getElem? hxa
    with_reducible (refine c_skip ?_; refine on_n ?_)
    refine c_join fun K1 hK1 => ?_
    have rest : ∀ (es : List (AVal × AVal)) (m X : HM) (S : Store), Tab (TQ mv (Q ++ [(w, x)])) es m → Has S (pt l15 (.row v15 0 [.str w, .ros a.length (a.flatMap (encT tI))]) + (pt l13 (.row v13 0 [.map l56 v56]) + (pt l56 (.mapo v56 es) + (m + (pt l5 (.row v5 0 [.int .i64 e.1, .int .i64 e.2.1, .str e.2.2]) + (X + (G + mf))))))) → K1 [] S := by
      intro es m X S ht hS
      refine hK1 _ _ rfl ?_
      dsimp only [zipF, List.map, Frame.get]
      refine c_ops ?_
      refine r_op (o_bin rfl (by first | trivial | (unfold inI64; omega)) (s_no ?_))
      dsimp only [putF, rd, Frame.get]
      refine r_op (o_mov (s_no ?_))
      dsimp only [putF, rd, Frame.get]
      refine r_nil (c_keep ?_)
      dsimp only [List.map]
      dsimp only [putF, rd, Frame.get]
      with_reducible (refine on_n ?_)
      exact ⟨a.length - (i + 1), by omega, i + 1, es, m, X, rfl, by omega, rfl, by rw [hstep]; exact ht, hS⟩
    have hk := ht.keys
    with_reducible (refine c_block ?_; refine c_seq ?_)
    refine c_ops ?_
    refine r_op (o_iaddrR rfl rfl (by omega) (by assumption) (s_no ?_))
    dsimp only [putF, rd, Frame.get]
    refine r_op (o_loadR rfl rfl rfl (s_no ?_))
    dsimp only [putF, rd, Frame.get]
    refine r_op (o_mov (s_no ?_))
    dsimp only [putF, rd, Frame.get]
    refine r_nil (c_keep ?_)
    dsimp only [List.map]
    dsimp only [putF, rd, Frame.get]
    with_reducible (refine on_n ?_; refine c_block ?_; refine c_seq ?_)
    refine c_ops ?_
    refine r_op (o_mov (s_no ?_))
    dsimp only [putF, rd, Frame.get]
    refine r_op (o_mov (s_no ?_))
    dsimp only [putF, rd, Frame.get]
    refine r_op (o_bin rfl (by first | trivial | (unfold inI64; omega)) (s_no ?_))
    dsimp only [putF, rd, Frame.get]
    refine r_op (o_mov (s_no ?_))
    dsimp only [putF, rd, Frame.get]
    refine r_nil (c_keep ?_)
    dsimp only [List.map]
    dsimp only [putF, rd, Frame.get]
    with_reducible (refine on_n ?_)
    refine c_dec rfl (fun hc1 => ?_) (fun hc1 => ?_)
    · have hmx : mv (w, x) = some (w, x) := by rw [hmv]; unfold moveW; rw [if_pos hc1]
      rcases putI ht w x with ⟨g1, g2, g3⟩ | ⟨k, p, v, R, g1, rfl, g3⟩
      · skip
        refine c_opsD0 hS fun S hS => ?_
        refine d_zero ?_
        refine r_op (o_load hS rfl rfl rfl rfl (s_no ?_))
        dsimp only [putF, rd, Frame.get]
        refine r_op (o_faddr rfl (s_no ?_))
        dsimp only [putF, rd, Frame.get]
        simp only [Nat.zero_mul, Nat.mul_zero, Nat.mul_one, Nat.add_zero, Nat.zero_add, Nat.sub_zero, Nat.reduceAdd, Nat.reduceMul]
        refine r_op (o_load hS rfl rfl rfl rfl (s_no ?_))
        dsimp only [putF, rd, Frame.get]
        refine r_op (o_load hS rfl rfl rfl rfl (s_no ?_))
        dsimp only [putF, rd, Frame.get]
        refine r_op (o_faddr rfl (s_no ?_))
        dsimp only [putF, rd, Frame.get]
        simp only [Nat.zero_mul, Nat.mul_zero, Nat.mul_one, Nat.add_zero, Nat.zero_add, Nat.sub_zero, Nat.reduceAdd, Nat.reduceMul]
        refine r_op (o_load hS rfl rfl rfl rfl (s_no ?_))
        dsimp only [putF, rd, Frame.get]
        refine r_op ?_
        refine o_mlook hS rfl rfl rfl hk ?_; dsimp only [putF, rd, Frame.get]; rw [lookM_none g1]; dsimp only [lookV]
        refine s_no ?_
        refine r_op (o_mov (s_no ?_))
        dsimp only [putF, rd, Frame.get]
        refine r_op (o_bsliceR rfl (s_no ?_))
        dsimp only [putF, rd, Frame.get, setCells, over]
        refine r_op ?_
        refine o_appendN hS rfl (SrcOf.one rfl) (by omega) fun v83 l83 S hS => ?_
        refine s_no ?_
        dsimp only [putF, rd, Frame.get]
        refine r_op (o_again hS rfl rfl rfl rfl rfl (s_no ?_))
        dsimp only [putF, rd, Frame.get]
        refine r_op (o_again hS rfl rfl rfl rfl rfl (s_no ?_))
        dsimp only [putF, rd, Frame.get]
        refine r_op (o_mupd hS rfl rfl rfl (by assumption) fun S hS => s_no ?_)
        dsimp only [putF, rd, Frame.get]
        dsimp only [putF, rd, Frame.get, setCells, over] at hS
        refine r_nil (c_keep ?_)
        dsimp only [List.map]
        dsimp only [putF, rd, Frame.get]
        with_reducible (refine ob_n ?_; refine ob_n ?_; refine on_n ?_)
        rw [keyPut_none g1] at hS
        exact rest _ _ X S (by rw [TQ_some hmx]; exact g3 l83 v83) (hS.eq (by ac_rfl))
      · skip
        refine c_opsD0 hS fun S hS => ?_
        refine d_zero ?_
        refine r_op (o_load hS rfl rfl rfl rfl (s_no ?_))
        dsimp only [putF, rd, Frame.get]
        refine r_op (o_faddr rfl (s_no ?_))
        dsimp only [putF, rd, Frame.get]
        simp only [Nat.zero_mul, Nat.mul_zero, Nat.mul_one, Nat.add_zero, Nat.zero_add, Nat.sub_zero, Nat.reduceAdd, Nat.reduceMul]
        refine r_op (o_load hS rfl rfl rfl rfl (s_no ?_))
        dsimp only [putF, rd, Frame.get]
        refine r_op (o_load hS rfl rfl rfl rfl (s_no ?_))
        dsimp only [putF, rd, Frame.get]
        refine r_op (o_faddr rfl (s_no ?_))
        dsimp only [putF, rd, Frame.get]
        simp only [Nat.zero_mul, Nat.mul_zero, Nat.mul_one, Nat.add_zero, Nat.zero_add, Nat.sub_zero, Nat.reduceAdd, Nat.reduceMul]
        refine r_op (o_load hS rfl rfl rfl rfl (s_no ?_))
        dsimp only [putF, rd, Frame.get]
        refine r_op ?_
        refine o_mlook hS rfl rfl rfl hk ?_; dsimp only [putF, rd, Frame.get]; rw [lookM_some g1]; dsimp only [lookV]
        refine s_no ?_
        refine r_op (o_mov (s_no ?_))
        dsimp only [putF, rd, Frame.get]
        refine r_op (o_bsliceR rfl (s_no ?_))
        dsimp only [putF, rd, Frame.get, setCells, over]
        refine r_op ?_
        refine o_appendX hS rfl (SrcOf.one rfl) rfl (by rw [List.length_map]; omega) (by omega) fun v83 S hS => ?_
        refine s_no ?_
        dsimp only [putF, rd, Frame.get]
        refine r_op (o_again hS rfl rfl rfl rfl rfl (s_no ?_))
        dsimp only [putF, rd, Frame.get]
        refine r_op (o_again hS rfl rfl rfl rfl rfl (s_no ?_))
        dsimp only [putF, rd, Frame.get]
        refine r_op (o_mupd hS rfl rfl rfl (by assumption) fun S hS => s_no ?_)
        dsimp only [putF, rd, Frame.get]
        dsimp only [putF, rd, Frame.get, setCells, over] at hS
        refine r_nil (c_keep ?_)
        dsimp only [List.map]
        dsimp only [putF, rd, Frame.get]
        with_reducible (refine ob_n ?_; refine ob_n ?_; refine on_n ?_)
        rw [keyPut_some g1] at hS
        exact rest _ _ X S (by rw [TQ_some hmx]; exact g3 v83) (hS.eq (by ac_rfl))
    · with_reducible (refine c_seq ?_)
      refine c_ops ?_
      refine r_op (o_mov (s_no ?_))
      dsimp only [putF, rd, Frame.get]
      refine r_op (o_mov (s_no ?_))
      dsimp only [putF, rd, Frame.get]
      refine r_op (o_bin rfl (by first | trivial | (unfold inI64; omega)) (s_no ?_))
      dsimp only [putF, rd, Frame.get]
      refine r_op (o_mov (s_no ?_))
      dsimp only [putF, rd, Frame.get]
      refine r_nil (c_keep ?_)
      dsimp only [List.map]
      dsimp only [putF, rd, Frame.get]
      with_reducible (refine on_n ?_)
      refine c_dec rfl (fun hc2 => ?_) (fun hc2 => ?_)
      · have hmx : mv (w, x) = some (w, x + by_) := by rw [hmv]; unfold moveW; rw [if_neg hc1, if_pos hc2]
        have hx64 : 0 ≤ x ∧ x ≤ 600 := by
          have hh : (w, a) ∈ tabOf s := (WL_perm _).mem_iff.1 (hlw ▸ List.mem_of_getElem? hx)
          have h1 : a = findW s w := tabOf_mem hh
          rw [h1] at hxl
          unfold findW at hxl
          obtain ⟨q, hq, rfl⟩ := List.mem_map.1 hxl
          have := (fromW_lt (List.mem_filter.1 hq).1).1
          omega
        rcases putI ht w (x + by_) with ⟨g1, g2, g3⟩ | ⟨k, p, v, R, g1, rfl, g3⟩
        · skip
          refine c_opsD0 hS fun S hS => ?_
          refine d_zero ?_
          refine r_op (o_load hS rfl rfl rfl rfl (s_no ?_))
          dsimp only [putF, rd, Frame.get]
          refine r_op (o_faddr rfl (s_no ?_))
          dsimp only [putF, rd, Frame.get]
          simp only [Nat.zero_mul, Nat.mul_zero, Nat.mul_one, Nat.add_zero, Nat.zero_add, Nat.sub_zero, Nat.reduceAdd, Nat.reduceMul]
          refine r_op (o_load hS rfl rfl rfl rfl (s_no ?_))
          dsimp only [putF, rd, Frame.get]
          refine r_op (o_load hS rfl rfl rfl rfl (s_no ?_))
          dsimp only [putF, rd, Frame.get]
          refine r_op (o_faddr rfl (s_no ?_))
          dsimp only [putF, rd, Frame.get]
          simp only [Nat.zero_mul, Nat.mul_zero, Nat.mul_one, Nat.add_zero, Nat.zero_add, Nat.sub_zero, Nat.reduceAdd, Nat.reduceMul]
          refine r_op (o_load hS rfl rfl rfl rfl (s_no ?_))
          dsimp only [putF, rd, Frame.get]
          refine r_op ?_
          refine o_mlook hS rfl rfl rfl hk ?_; dsimp only [putF, rd, Frame.get]; rw [lookM_none g1]; dsimp only [lookV]
          refine s_no ?_
          refine r_op (o_mov (s_no ?_))
          dsimp only [putF, rd, Frame.get]
          refine r_op (o_mov (s_no ?_))
          dsimp only [putF, rd, Frame.get]
          refine r_op (o_bin rfl (by first | trivial | (unfold inI64; omega)) (s_no ?_))
          dsimp only [putF, rd, Frame.get]
          refine r_op (o_bsliceR rfl (s_no ?_))
          dsimp only [putF, rd, Frame.get, setCells, over]
          refine r_op ?_
          refine o_appendN hS rfl (SrcOf.one rfl) (by omega) fun v83 l83 S hS => ?_
          refine s_no ?_
          dsimp only [putF, rd, Frame.get]
          refine r_op (o_again hS rfl rfl rfl rfl rfl (s_no ?_))
          dsimp only [putF, rd, Frame.get]
          refine r_op (o_again hS rfl rfl rfl rfl rfl (s_no ?_))
          dsimp only [putF, rd, Frame.get]
          refine r_op (o_mupd hS rfl rfl rfl (by assumption) fun S hS => s_no ?_)
          dsimp only [putF, rd, Frame.get]
          dsimp only [putF, rd, Frame.get, setCells, over] at hS
          refine r_nil (c_keep ?_)
          dsimp only [List.map]
          dsimp only [putF, rd, Frame.get]
          with_reducible (refine ob_n ?_; refine ob_n ?_; refine on_n ?_)
          rw [keyPut_none g1] at hS
          exact rest _ _ X S (by rw [TQ_some hmx]; exact g3 l83 v83) (hS.eq (by ac_rfl))
        · skip
          refine c_opsD0 hS fun S hS => ?_
          refine d_zero ?_
          refine r_op (o_load hS rfl rfl rfl rfl (s_no ?_))
          dsimp only [putF, rd, Frame.get]
          refine r_op (o_faddr rfl (s_no ?_))
          dsimp only [putF, rd, Frame.get]
          simp only [Nat.zero_mul, Nat.mul_zero, Nat.mul_one, Nat.add_zero, Nat.zero_add, Nat.sub_zero, Nat.reduceAdd, Nat.reduceMul]
          refine r_op (o_load hS rfl rfl rfl rfl (s_no ?_))
          dsimp only [putF, rd, Frame.get]
          refine r_op (o_load hS rfl rfl rfl rfl (s_no ?_))
          dsimp only [putF, rd, Frame.get]
          refine r_op (o_faddr rfl (s_no ?_))
          dsimp only [putF, rd, Frame.get]
          simp only [Nat.zero_mul, Nat.mul_zero, Nat.mul_one, Nat.add_zero, Nat.zero_add, Nat.sub_zero, Nat.reduceAdd, Nat.reduceMul]
          refine r_op (o_load hS rfl rfl rfl rfl (s_no ?_))
          dsimp only [putF, rd, Frame.get]
          refine r_op ?_
          refine o_mlook hS rfl rfl rfl hk ?_; dsimp only [putF, rd, Frame.get]; rw [lookM_some g1]; dsimp only [lookV]
          refine s_no ?_
          refine r_op (o_mov (s_no ?_))
          dsimp only [putF, rd, Frame.get]
          refine r_op (o_mov (s_no ?_))
          dsimp only [putF, rd, Frame.get]
          refine r_op (o_bin rfl (by first | trivial | (unfold inI64; omega)) (s_no ?_))
          dsimp only [putF, rd, Frame.get]
          refine r_op (o_bsliceR rfl (s_no ?_))
          dsimp only [putF, rd, Frame.get, setCells, over]
          refine r_op ?_
          refine o_appendX hS rfl (SrcOf.one rfl) rfl (by rw [List.length_map]; omega) (by omega) fun v83 S hS => ?_
          refine s_no ?_
          dsimp only [putF, rd, Frame.get]
          refine r_op (o_again hS rfl rfl rfl rfl rfl (s_no ?_))
          dsimp only [putF, rd, Frame.get]
          refine r_op (o_again hS rfl rfl rfl rfl rfl (s_no ?_))
          dsimp only [putF, rd, Frame.get]
          refine r_op (o_mupd hS rfl rfl rfl (by assumption) fun S hS => s_no ?_)
          dsimp only [putF, rd, Frame.get]
          dsimp only [putF, rd, Frame.get, setCells, over] at hS
          refine r_nil (c_keep ?_)
          dsimp only [List.map]
          dsimp only [putF, rd, Frame.get]
          with_reducible (refine ob_n ?_; refine ob_n ?_; refine on_n ?_)
          rw [keyPut_some g1] at hS
          exact rest _ _ X S (by rw [TQ_some hmx]; exact g3 v83) (hS.eq (by ac_rfl))
      · have hmx : mv (w, x) = none := by rw [hmv]; unfold moveW; rw [if_neg hc1, if_neg hc2]
        with_reducible (refine c_skip ?_; refine ob_n ?_; refine ob_n ?_; refine on_n ?_)
        exact rest es m X S (by rw [TQ_none hmx]; exact ht) hS
  obtain rfl : j = l.length := by omega
  rw [List.take_length] at ht
  obtain ⟨hb, hhb⟩ : ∃ hb : Nat, hb = ((hi' : Int) + by_).toNat := ⟨_, rfl⟩
  have hhb' : (hi' : Int) + by_ = (hb : Int) := by omega
  rw [← hhb] at hup u4 u5
  obtain ⟨u, hu⟩ : ∃ u, u = ((editMade s e).take hb).drop lo := ⟨_, rfl⟩
  rw [← hu] at hup
  have hul : u.length ≤ 600 := by rw [hu, List.length_drop, List.length_take]; omega
  have hE := each_walk hP (s := editMade s e) hu u4 u5 (by omega) f_words_Update_2 [.ptr l13 v13 0] (fun i c => ∃ es m X, Tab (((intE (shiftW lo (fromW u 0))).take i).foldl tabPut (TQ mv (flatI l))) es m ∧ c = TabM l13 v13 l56 v56 es m + X) (fun i x c hx hC => by
    obtain ⟨es, m, X, ht, rfl⟩ := hC
    have hx2 : (intE (shiftW lo (fromW u 0)))[i]? = some (x.1, ((lo + x.2 : Nat) : Int)) := by
      unfold intE shiftW
      rw [List.getElem?_map, List.getElem?_map, hx]; rfl
    have hbd : (tabGet (((intE (shiftW lo (fromW u 0))).take i).foldl tabPut (TQ mv (flatI l))) x.1).length ≤ 1000000 := by
      unfold TQ
      rw [← List.foldl_append]
      refine Nat.le_trans (put_len _ _) ?_
      have h1 := List.length_filterMap_le mv (flatI l)
      have h2 := fromW_len u
      rw [List.length_append, List.length_take]
      unfold intE shiftW
      rw [List.length_map, List.length_map]
      omega
    intro S mf hS
    refine (add2_walk (l3 := l13) (v3 := v13) (lm := l56) (vm := v56) ht x.1 ((lo + x.2 : Nat) : Int) hbd S (X + mf) (hS.eq (by ac_rfl))).mono ?_
    rintro r S' ⟨m', ⟨es', mm, X', ht', rfl⟩, hS'⟩
    refine ⟨_, ⟨_, HM.nil, ⟨es', mm, X' + X, ?_, rfl⟩, rfl⟩, hS'.eq (by rw [HM.add_nil]; ac_rfl)⟩
    rw [List.take_add_one, hx2, Option.toList_some, List.foldl_append]
    exact ht') (TabM l13 v13 l56 v56 es m) ⟨es, m, HM.nil, by rw [List.take_zero]; exact ht, (HM.add_nil _).symm⟩
  with_reducible (refine c_exit ?_; refine on_e ?_; refine on_e ?_; refine ob_e ?_; refine on_n ?_; refine c_seq ?_)
  refine c_ops ?_
  refine r_op (o_mov (s_no ?_))
  dsimp only [putF, rd, Frame.get]
  refine r_op (o_load hS rfl rfl rfl rfl (s_no ?_))
  dsimp only [putF, rd, Frame.get]
  refine r_op (o_call ?_)
  dsimp only [List.map, putF, rd, Frame.get]
  refine hM.plain (s, e) hm rfl ?_; show splitG _ (.str (editMade s e)) _
  refine s_no ?_
  refine r_op (o_mov (s_no ?_))
  dsimp only [putF, rd, Frame.get]
  refine r_nil (c_keep ?_)
  dsimp only [List.map]
  dsimp only [putF, rd, Frame.get]
  with_reducible (refine on_n ?_; refine c_seq ?_)
  have hS := hS.eq (m' := TabM l13 v13 l56 v56 es m + (pt l5 (.row v5 0 [.int .i64 e.1, .int .i64 e.2.1, .str e.2.2]) + (X + (G + mf)))) (by show _ = (pt l13 _ + (pt l56 _ + m)) + _; ac_rfl)
  refine c_ops ?_
  refine r_op (o_mov (s_no ?_))
  dsimp only [putF, rd, Frame.get]
  refine r_op (o_mov (s_no ?_))
  dsimp only [putF, rd, Frame.get]
  refine r_op (o_mov (s_no ?_))
  dsimp only [putF, rd, Frame.get]
  refine r_op (o_mov (s_no ?_))
  dsimp only [putF, rd, Frame.get]
  refine r_op (o_bin rfl (by first | trivial | (unfold inI64; omega)) (s_no ?_))
  dsimp only [putF, rd, Frame.get]
  refine r_op (o_mkfunc (s_no ?_))
  dsimp only [putF, rd, Frame.get]
  refine r_op (o_call ?_)
  dsimp only [List.map, putF, rd, Frame.get]
  rw [hhb']; refine HC.use hE hS ?_; rintro r m' S ⟨c1, X1, ⟨es2, m2, X3, ht2, rfl⟩, rfl⟩ hS
  refine s_no ?_
  refine r_nil (c_keep ?_)
  dsimp only [List.map]
  dsimp only [putF, rd, Frame.get]
  rw [List.take_of_length_le (by unfold intE shiftW; rw [List.length_map, List.length_map]; exact Nat.le_refl _)] at ht2
  obtain ⟨D, hD1, rfl, rfl⟩ := tab_toD ht2
  have hS := hS.eq (m' := pt l13 (.row v13 0 [.map l56 v56]) + (pt l56 (.mapo v56 (wEs D)) + (wMem D + (X3 + (X1 + (pt l5 (.row v5 0 [.int .i64 e.1, .int .i64 e.2.1, .str e.2.2]) + (X + (G + mf)))))))) (by show pt l13 _ + (pt l56 _ + wMem D) + X3 + X1 + _ = _; ac_rfl)
  with_reducible (refine on_n ?_; refine c_seq ?_; refine c_seq ?_)
  refine c_ops ?_
  refine r_op (o_load hS rfl rfl rfl rfl (s_no ?_))
  dsimp only [putF, rd, Frame.get]
  refine r_op (o_mrange hS rfl rfl fun v113 l113 S hS => s_no ?_)
  dsimp only [putF, rd, Frame.get]
  refine r_nil (c_keep ?_)
  dsimp only [List.map]
  dsimp only [putF, rd, Frame.get]
  with_reducible (refine on_n ?_; refine c_block ?_)
  have hDlen : ∀ d ∈ D, d.2.1.length ≤ 1000000 := fun d hd => by
    have n2 : ((wTab D).map (·.1)).Nodup := by rw [hD1]; unfold TQ; rw [← List.foldl_append]; exact putFold_nodup _ List.nodup_nil
    have h0 := tab_get n2 (x := (d.1, d.2.1)) (List.mem_map.2 ⟨d, hd, rfl⟩)
    show (d.1, d.2.1).2.length ≤ _
    rw [← h0, hD1]
    unfold TQ
    rw [← List.foldl_append]
    refine Nat.le_trans (put_len _ _) ?_
    have h1 := List.length_filterMap_le mv (flatI l)
    have h2 := fromW_len u
    rw [List.length_append]
    unfold intE shiftW
    rw [List.length_map, List.length_map]
    omega
  refine c_loop (fun k xs S => ∃ (seen : List Nat) (X : HM), xs = [] ∧ seen.Nodup ∧ (∀ i ∈ seen, i < D.length) ∧ k = D.length - seen.length ∧ Has S (pt l113 (.itero v113 v56 (wEs D).length (wEs D).length seen) + (pt l13 (.row v13 0 [.map l56 v56]) + (pt l56 (.mapo v56 (wEs D)) + (wMem (sdAt seen D) + (X + mf)))))) D.length ⟨[], X3 + (X1 + (pt l5 (.row v5 0 [.int .i64 e.1, .int .i64 e.2.1, .str e.2.2]) + (X + G))), rfl, List.nodup_nil, by simp, rfl, hS.eq (by rw [sdAt_nil]; ac_rfl)⟩ ?_
  clear hS
  rintro k xs S hl3 ⟨seen, X, rfl, hn, hlt2, rfl, hS⟩
  dsimp only [zipF, List.map, Frame.get]
  have hel : (wEs D).length = D.length := List.length_map ..
  with_reducible (refine c_seq ?_)
  refine c_ops ?_
  refine r_op ?_
  refine o_mnext (lm := l56) hS rfl rfl rfl rfl (fun hall => s_no ?_) (fun i ee S hie hns hS => s_no ?_)
  all_goals try dsimp only [putF, rd, Frame.get]
  all_goals (refine r_op (o_extract rfl rfl (s_no ?_)))
  all_goals (try dsimp only [putF, rd, Frame.get])
  all_goals refine r_nil (c_keep ?_)
  all_goals try dsimp only [List.map]
  all_goals try dsimp only [putF, rd, Frame.get]
  · with_reducible (refine on_n ?_; refine c_seq ?_)
    refine c_bool (c := false) rfl (fun h => by cases h) (fun _ => ?_)
    with_reducible (refine c_exit ?_; refine on_e ?_; refine on_e ?_; refine ob_e ?_; refine on_n ?_; refine c_seq ?_)
    have hall2 := sdAt_all (seen := seen) (D := D) (fun i hi => hall i (by omega))
    have hes : wEs D = wEs (D.map sd) := by rw [← hall2, sdAt_es]
    rw [hall2, hes] at hS
    have htT := tab_ofD (D.map sd)
    rw [wTab_sd, hD1] at htT
    have n1 : (((intE (shiftW lo (fromW u 0))).foldl tabPut (TQ mv (flatI l)) : WTab).map (·.1)).Nodup := by unfold TQ; rw [← List.foldl_append]; exact putFold_nodup _ List.nodup_nil
    have hk : ((sortT ((intE (shiftW lo (fromW u 0))).foldl tabPut (TQ mv (flatI l)))).map (·.1)).Nodup := by unfold sortT; rw [List.map_map]; exact n1
    have hup' : WL (sortT ((intE (shiftW lo (fromW u 0))).foldl tabPut (TQ mv (flatI l)))) = WL (tabOf (editMade s e)) := by
      unfold TQ; conv => lhs; rw [hlw]
      exact hup
    have hS := hS.eq (m' := (pt l56 (.mapo v56 (wEs (D.map sd))) + wMem (D.map sd)) + (pt l13 (.row v13 0 [.map l56 v56]) + (pt l113 (.itero v113 v56 (wEs (D.map sd)).length (wEs (D.map sd)).length seen) + (X + mf)))) (by ac_rfl)
    have hwl : (WL (sortT ((intE (shiftW lo (fromW u 0))).foldl tabPut (TQ mv (flatI l))))).length ≤ 1000000 := by
      rw [hup', WL_length]; have := tabOf_len (editMade s e); omega
    rw [WL_length] at hwl
    have hmemD : ∀ x ∈ sortT ((intE (shiftW lo (fromW u 0))).foldl tabPut (TQ mv (flatI l))), x.2.length ≤ 1000000 := fun x hx => by
      rw [← hD1, ← wTab_sd] at hx
      obtain ⟨d, hd, rfl⟩ := List.mem_map.1 hx
      obtain ⟨d', hd', rfl⟩ := List.mem_map.1 hd
      show (srt d'.2.1).length ≤ _
      rw [srt_len]; exact hDlen d' hd'
    have hposD : ∀ x ∈ sortT ((intE (shiftW lo (fromW u 0))).foldl tabPut (TQ mv (flatI l))), x.2 ≠ [] := fun x hx => by
      have hp : ∀ x ∈ ((intE (shiftW lo (fromW u 0))).foldl tabPut (TQ mv (flatI l)) : WTab), x.2 ≠ [] := by
        unfold TQ; rw [← List.foldl_append]; exact putFold_pos _ (fun x hx => by cases hx)
      obtain ⟨y, hy, rfl⟩ := List.mem_map.1 hx
      intro e0
      have e0 : srt y.2 = [] := e0
      have := srt_len y.2
      rw [e0] at this
      exact hp y hy (List.length_eq_zero_iff.1 this.symm)
    refine c_ops ?_
    refine r_op (o_load hS rfl rfl rfl rfl (s_no ?_))
    dsimp only [putF, rd, Frame.get]
    refine r_op (o_call ?_)
    dsimp only [List.map, putF, rd, Frame.get]
    refine HC.use (ListF htT hk hwl hmemD hposD (lm := l56) (vm := v56)) hS ?_; rintro r m' S ⟨rfl, X2, rfl⟩ hS
    refine s_no ?_
    refine r_op (o_mov (s_no ?_))
    dsimp only [putF, rd, Frame.get]
    refine r_op (o_mov (s_no ?_))
    dsimp only [putF, rd, Frame.get]
    refine r_nil (c_keep ?_)
    dsimp only [List.map]
    dsimp only [putF, rd, Frame.get]
    with_reducible (refine on_n ?_; refine c_ret ?_)
    try dsimp only
    unfold words_Update_r
    refine w_tmp (w_tmp (w_nil ?_))
    dsimp only [retV, Frame.get]
    rw [hup']
    exact ⟨(pt l56 (.mapo v56 (wEs (D.map sd))) + wMem (D.map sd)) + X2 + (pt l13 (.row v13 0 [.map l56 v56]) + (pt l113 (.itero v113 v56 (wEs (D.map sd)).length (wEs (D.map sd)).length seen) + X)), .inr (by rw [hr]), hS.eq (by ac_rfl)⟩
  · with_reducible (refine on_n ?_; refine c_seq ?_)
    refine c_bool (c := true) rfl (fun _ => ?_) (fun h => by cases h)
    have hi3 : i < D.length := by rw [← hel]; exact (List.getElem?_eq_some_iff.1 hie).1
    have hn2 : (seen ++ [i]).Nodup := List.nodup_append.2 ⟨hn, by simp, fun a ha b hb => by rintro rfl; simp only [List.mem_singleton] at hb; exact hns (hb ▸ ha)⟩
    have hlt3 : ∀ j ∈ seen ++ [i], j < D.length := fun j hj => by
      rcases List.mem_append.1 hj with h | h
      · exact hlt2 j h
      · simp only [List.mem_singleton] at h; omega
    have hle := seen_len hn2 hlt3
    rw [List.length_append, List.length_singleton] at hle
    obtain ⟨⟨w, a, p, v⟩, hd⟩ : ∃ d, D[i]? = some d := ⟨_, List.getElem?_eq_getElem hi3⟩
    have hee : ee = (.str w, .sl p v 0 a.length) := by
      unfold wEs at hie
      rw [List.getElem?_map, hd] at hie
      exact (Option.some.inj hie).symm
    subst hee
    have hal := hDlen _ (List.mem_of_getElem? hd)
    obtain ⟨A, B, hA, hB⟩ := sdAt_step hd hns
    rw [hA, wMem_append] at hS
    have hS := hS.eq (m' := pt l113 (.itero v113 v56 (wEs D).length (wEs D).length (seen ++ [i])) + (pt l13 (.row v13 0 [.map l56 v56]) + (pt l56 (.mapo v56 (wEs D)) + (pt p (.row v 1 (a.map (.int .i64))) + ((wMem A + wMem B) + (X + mf)))))) (by show _ + (_ + (_ + ((wMem A + (pt p (.row v 1 (a.map (.int .i64))) + wMem B)) + _))) = _; ac_rfl)
    with_reducible (refine c_skip ?_; refine on_n ?_; refine c_block ?_; refine c_seq ?_)
    refine c_ops ?_
    refine r_op ?_
    refine o_mentry (lm := l56) hS rfl rfl rfl hie ?_
    refine s_no ?_
    dsimp only [putF, rd, Frame.get]
    refine r_op (o_extract rfl rfl (s_no ?_))
    dsimp only [putF, rd, Frame.get]
    refine r_op (o_mov (s_no ?_))
    dsimp only [putF, rd, Frame.get]
    refine r_nil (c_keep ?_)
    dsimp only [List.map]
    dsimp only [putF, rd, Frame.get]
    with_reducible (refine on_n ?_)
    refine c_ops ?_
    refine r_op (o_mov (s_no ?_))
    dsimp only [putF, rd, Frame.get]
    refine r_op (o_call ?_)
    dsimp only [List.map, putF, rd, Frame.get]
    refine HC.use (a := pt p (.row v 1 (ints64 a))) (SortI_hc rfl (by have : a.length ≤ 1000000 := hal; omega)) hS ?_; rintro r m' S ⟨rfl, rfl⟩ hS
    refine s_no ?_
    refine r_nil (c_keep ?_)
    dsimp only [List.map]
    dsimp only [putF, rd, Frame.get]
    with_reducible (refine ob_n ?_; refine on_n ?_)
    refine ⟨D.length - (seen ++ [i]).length, by rw [List.length_append, List.length_singleton]; omega, seen ++ [i], X, rfl, hn2, hlt3, rfl, hS.eq ?_⟩
    rw [hB, wMem_append]
    show _ = _ + (_ + (_ + ((wMem A + (pt p (.row v 1 ((srt a).map (.int .i64))) + wMem B)) + _)))
    ac_rfl
theorem words_Update_con' (hP : Con Try.prog f_words_part words_part_ct) (hA : Con Try.prog f_words_Around words_Around_ct) (hU : Con Try.prog f_words_Update_1 words_Update_1_ct) (hC : Con Try.prog f_edit_Check edit_Check_ct) (hM : Con Try.prog f_edit_Made edit_Made_ct) : Con Try.prog f_words_Update words_Update_ct := by
  refine ⟨words_Update_ok.able rfl, fun ⟨s, l, e⟩ hp => ?_⟩
  obtain ⟨h1, h2, h3⟩ := hp
  have h := RC.ofT (r0 := .tup [encA (.sl tWord) (wordsUpdate s l e).1, encA tI (wordsUpdate s l e).2]) 2 (Update_walk hP hA hU hC hM h1 h2 h3) fun r m' S' h hS => by
    rcases h with ⟨c, rfl, h⟩ | rfl
    · rw [h]; rfl
    · rfl
  exact ACalls.weak h fun r S' e' => ⟨_, id, [], LeV.refl _, has_none, [encA (.sl tWord) (wordsUpdate s l e).1, encA tI (wordsUpdate s l e).2], ⟨_, rfl, _, rfl, rfl, rfl⟩, e'⟩
end Go.Proofs.Ytmpmlnjiolbplaa.U
