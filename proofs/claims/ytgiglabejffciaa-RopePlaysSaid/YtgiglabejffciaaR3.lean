/- Ropes that are played, walked. Conditions: none. -/
import Derived.Test.YtgiglabejffciaaR2
set_option linter.unusedVariables false
set_option linter.unusedSimpArgs false
set_option maxRecDepth 100000
set_option maxHeartbeats 1000000
namespace Go.Proofs.Ytgiglabejffciaa.H
open Go.Vc Go.Fu

theorem do_walk (hP : Con Try.prog f_pos_Of pos_Of_ct) (hH : Con Try.prog f_poly_Of poly_Of_ct) (hPJ : Con Try.prog f_pos_Join pos_Join_ct) (hHJ : Con Try.prog f_poly_Join poly_Join_ct) {all : List Ro} {lm vm : Nat} {x : AVal} {ml : HM} {o : Go.Fu.Op} (hs : SlR 1 x (all.map fun r => ropeO r) all.length ml) (ok : ROk all) (hx : o.2.1.length ≤ 140737488351232) :
    HC Try.prog f___rope_maker__do [.ptr lm vm 0, opA o] (MkR all lm vm x ml) fun r m' => r = .int .i64 (opCode (all.map txtO) o) ∧ ∃ x' ml' X, m' = MkR (ropeNext all o) lm vm x' ml' + X ∧ SlR 1 x' ((ropeNext all o).map fun r => ropeO r) (ropeNext all o).length ml' := by
  intro S mf hS
  have hfew := ok.few
  refine __rope_maker__do_ok.out rfl ?_ (by simp [__rope_maker__do_fi])
  unfold vcFun __rope_maker__do_fi
  dsimp only
  unfold __rope_maker__do_c
  dsimp only [argF]
  with_reducible (refine c_seq ?_)
  refine c_ops ?_
  refine r_op (o_box hS rfl fun v3 l3 S hS => s_no ?_)
  dsimp only [putF, rd, Frame.get]
  refine r_op (o_mov (s_no ?_))
  dsimp only [putF, rd, Frame.get]
  refine r_nil (c_keep ?_)
  dsimp only [List.map]
  dsimp only [putF, rd, Frame.get]
  with_reducible (refine on_n ?_; refine c_seq ?_; refine c_seq ?_)
  refine c_ops ?_
  refine r_op (o_mov (s_no ?_))
  dsimp only [putF, rd, Frame.get]
  refine r_op (o_load hS rfl rfl rfl rfl (s_no ?_))
  dsimp only [putF, rd, Frame.get]
  refine r_op (o_call ?_)
  dsimp only [List.map, putF, rd, Frame.get]
  refine fault_use (o := o) hs ok hS ?_
  refine s_no ?_
  refine r_op (o_mov (s_no ?_))
  dsimp only [putF, rd, Frame.get]
  refine r_nil (c_keep ?_)
  dsimp only [List.map]
  dsimp only [putF, rd, Frame.get]
  with_reducible (refine on_n ?_; refine c_seq ?_)
  refine c_ops ?_
  refine r_op (o_mov (s_no ?_))
  dsimp only [putF, rd, Frame.get]
  refine r_op (o_bin rfl (by first | trivial | (unfold inI64; omega)) (s_no ?_))
  dsimp only [putF, rd, Frame.get]
  refine r_nil (c_keep ?_)
  dsimp only [List.map]
  dsimp only [putF, rd, Frame.get]
  with_reducible (refine on_n ?_)
  refine c_ndec rfl (fun hc => ?_) (fun hc => ?_)
  · have e : opCode (all.map txtO) o = opFault (all.map txtO) o := by unfold opCode; rw [if_pos hc]
    have e2 : ropeNext all o = all := by unfold ropeNext; rw [e, if_neg hc]
    rw [e, e2]
    with_reducible (refine c_seq ?_)
    refine c_ops ?_
    refine r_op (o_mov (s_no ?_))
    dsimp only [putF, rd, Frame.get]
    refine r_op (o_mov (s_no ?_))
    dsimp only [putF, rd, Frame.get]
    refine r_nil (c_keep ?_)
    dsimp only [List.map]
    dsimp only [putF, rd, Frame.get]
    with_reducible (refine on_n ?_; refine c_ret ?_; refine on_r ?_)
    try dsimp only
    unfold __rope_maker__do_r
    refine w_tmp (w_nil ?_)
    dsimp only [retV, Frame.get]
    exact ⟨_, ⟨rfl, x, ml, _, rfl, hs⟩, hS.eq (by show _ = (MkR all lm vm x ml + pt l3 (.row v3 0 [.int .i64 o.1, .str o.2.1, .int .i64 o.2.2.1, .int .i64 o.2.2.2.1, .int .i64 o.2.2.2.2.1, .int .i64 o.2.2.2.2.2])) + mf; ac_rfl)⟩
  with_reducible (refine c_skip ?_; refine on_n ?_; refine c_seq ?_; refine c_seq ?_)
  refine c_ops ?_
  refine r_op (o_mov (s_no ?_))
  dsimp only [putF, rd, Frame.get]
  refine r_op (o_load hS rfl rfl rfl rfl (s_no ?_))
  dsimp only [putF, rd, Frame.get]
  refine r_op (o_call ?_)
  dsimp only [List.map, putF, rd, Frame.get]
  refine (length_walk (o := o) hs ok hc hx).quiet (fun r m' h => h) hS ?_
  refine s_no ?_
  refine r_op (o_bin rfl (by first | trivial | (unfold inI64; omega)) (s_no ?_))
  dsimp only [putF, rd, Frame.get]
  refine r_nil (c_keep ?_)
  dsimp only [List.map]
  dsimp only [putF, rd, Frame.get]
  with_reducible (refine on_n ?_)
  refine c_dec rfl (fun hg => ?_) (fun hg => ?_)
  · have hg := (opLen_big ok hc).1 (by omega)
    have e : opCode (all.map txtO) o = 1 := by unfold opCode; rw [if_neg (by simpa using hc), if_pos hg]
    have e2 : ropeNext all o = all := by unfold ropeNext; rw [e, if_neg (by decide)]
    rw [e, e2]
    with_reducible (refine c_seq ?_)
    refine c_ops ?_
    refine r_op (o_mov (s_no ?_))
    dsimp only [putF, rd, Frame.get]
    refine r_nil (c_keep ?_)
    dsimp only [List.map]
    dsimp only [putF, rd, Frame.get]
    with_reducible (refine on_n ?_; refine c_ret ?_; refine on_r ?_)
    try dsimp only
    unfold __rope_maker__do_r
    refine w_tmp (w_nil ?_)
    dsimp only [retV, Frame.get]
    exact ⟨_, ⟨rfl, x, ml, _, rfl, hs⟩, hS.eq (by show _ = (MkR all lm vm x ml + pt l3 (.row v3 0 [.int .i64 o.1, .str o.2.1, .int .i64 o.2.2.1, .int .i64 o.2.2.2.1, .int .i64 o.2.2.2.2.1, .int .i64 o.2.2.2.2.2])) + mf; ac_rfl)⟩
  have hg : ¬ 600 < (opText (all.map txtO) o).length := fun q => hg (by have := (opLen_big ok hc).2 q; omega)
  have e : opCode (all.map txtO) o = 0 := by unfold opCode; rw [if_neg (by simpa using hc), if_neg hg]
  have e2 : ropeNext all o = all ++ [opRope all o] := by unfold ropeNext; rw [e, if_pos rfl]
  rw [e, e2]
  have mk := make_walk hP hH hPJ hHJ (o := o) (lm := lm) (vm := vm) hs ok hc (by omega)
  with_reducible (refine c_skip ?_; refine on_n ?_; refine c_seq ?_)
  cases hR : opRope all o with
  | none =>
    rw [hR] at mk
    refine c_opsD0 hS fun S hS => ?_
    refine d_op (q_op rfl (o_mov (s_no ?_)))
    dsimp only [putF, rd, Frame.get]
    refine d_op (q_op rfl (o_mov (s_no ?_)))
    dsimp only [putF, rd, Frame.get]
    refine d_op (q_op rfl (o_nilchk rfl (s_no ?_)))
    dsimp only [putF, rd, Frame.get]
    refine d_op (q_op rfl (o_faddr rfl (s_no ?_)))
    dsimp only [putF, rd, Frame.get]
    simp only [Nat.zero_mul, Nat.mul_zero, Nat.mul_one, Nat.add_zero, Nat.zero_add, Nat.sub_zero, Nat.reduceAdd, Nat.reduceMul]
    refine d_op (q_op rfl (o_load hS rfl rfl rfl rfl (s_no ?_)))
    dsimp only [putF, rd, Frame.get]
    refine d_op (q_op rfl (o_mov (s_no ?_)))
    dsimp only [putF, rd, Frame.get]
    refine d_op (q_op rfl (o_load hS rfl rfl rfl rfl (s_no ?_)))
    dsimp only [putF, rd, Frame.get]
    refine d_op (q_call _ (mk.quiet (fun r m' h => h) hS ⟨rfl, rfl⟩) ?_)
    refine s_no ?_
    dsimp only [putF, rd, Frame.get]
    refine d_zero ?_
    refine r_op (o_bsliceR rfl (s_no ?_))
    dsimp only [putF, rd, Frame.get, setCells, over]
    refine r_op ?_
    refine o_appendR hS rfl hs (SrcOf.one rfl) rfl (by omega) fun x' ml' S hs' hS => ?_
    refine s_no ?_
    dsimp only [putF, rd, Frame.get]
    refine r_op (o_nilchk rfl (s_no ?_))
    dsimp only [putF, rd, Frame.get]
    refine r_op (o_faddr rfl (s_no ?_))
    dsimp only [putF, rd, Frame.get]
    simp only [Nat.zero_mul, Nat.mul_zero, Nat.mul_one, Nat.add_zero, Nat.zero_add, Nat.sub_zero, Nat.reduceAdd, Nat.reduceMul]
    refine r_op ?_
    refine o_store hS rfl rfl hs'.cl rfl (by simp) fun S hS => ?_; (try dsimp only [putF, rd, Frame.get, setCells, over] at hS)
    refine s_no ?_
    dsimp only [putF, rd, Frame.get]
    refine r_nil (c_keep ?_)
    dsimp only [List.map]
    with_reducible (refine on_n ?_; refine c_seq ?_)
    refine c_ops ?_
    refine r_op (o_mov (s_no ?_))
    dsimp only [putF, rd, Frame.get]
    refine r_nil (c_keep ?_)
    dsimp only [List.map]
    dsimp only [putF, rd, Frame.get]
    with_reducible (refine on_n ?_; refine c_ret ?_)
    try dsimp only
    unfold __rope_maker__do_r
    refine w_tmp (w_nil ?_)
    dsimp only [retV, Frame.get]
    refine ⟨_, ⟨rfl, x', ml', _, rfl, ?_⟩, hS.eq (by show _ = ((pt lm (.row vm 0 [x']) + ml') + pt l3 (.row v3 0 [.int .i64 o.1, .str o.2.1, .int .i64 o.2.2.1, .int .i64 o.2.2.2.1, .int .i64 o.2.2.2.2.1, .int .i64 o.2.2.2.2.2])) + mf; ac_rfl)⟩
    rw [List.map_append, List.length_append]; exact hs'
  | some q =>
    rw [hR] at mk
    refine c_opsD0 hS fun S hS => ?_
    refine d_op (q_op rfl (o_mov (s_no ?_)))
    dsimp only [putF, rd, Frame.get]
    refine d_op (q_op rfl (o_mov (s_no ?_)))
    dsimp only [putF, rd, Frame.get]
    refine d_op (q_op rfl (o_nilchk rfl (s_no ?_)))
    dsimp only [putF, rd, Frame.get]
    refine d_op (q_op rfl (o_faddr rfl (s_no ?_)))
    dsimp only [putF, rd, Frame.get]
    simp only [Nat.zero_mul, Nat.mul_zero, Nat.mul_one, Nat.add_zero, Nat.zero_add, Nat.sub_zero, Nat.reduceAdd, Nat.reduceMul]
    refine d_op (q_op rfl (o_load hS rfl rfl rfl rfl (s_no ?_)))
    dsimp only [putF, rd, Frame.get]
    refine d_op (q_op rfl (o_mov (s_no ?_)))
    dsimp only [putF, rd, Frame.get]
    refine d_op (q_op rfl (o_load hS rfl rfl rfl rfl (s_no ?_)))
    dsimp only [putF, rd, Frame.get]
    refine d_op (q_call _ (mk.quiet (fun r m' h => h) hS ⟨rfl, rfl⟩) ?_)
    refine s_no ?_
    dsimp only [putF, rd, Frame.get]
    refine d_zero ?_
    refine r_op (o_bsliceR rfl (s_no ?_))
    dsimp only [putF, rd, Frame.get, setCells, over]
    refine r_op ?_
    refine o_appendR hS rfl hs (SrcOf.one rfl) rfl (by omega) fun x' ml' S hs' hS => ?_
    refine s_no ?_
    dsimp only [putF, rd, Frame.get]
    refine r_op (o_nilchk rfl (s_no ?_))
    dsimp only [putF, rd, Frame.get]
    refine r_op (o_faddr rfl (s_no ?_))
    dsimp only [putF, rd, Frame.get]
    simp only [Nat.zero_mul, Nat.mul_zero, Nat.mul_one, Nat.add_zero, Nat.zero_add, Nat.sub_zero, Nat.reduceAdd, Nat.reduceMul]
    refine r_op ?_
    refine o_store hS rfl rfl hs'.cl rfl (by simp) fun S hS => ?_; (try dsimp only [putF, rd, Frame.get, setCells, over] at hS)
    refine s_no ?_
    dsimp only [putF, rd, Frame.get]
    refine r_nil (c_keep ?_)
    dsimp only [List.map]
    with_reducible (refine on_n ?_; refine c_seq ?_)
    refine c_ops ?_
    refine r_op (o_mov (s_no ?_))
    dsimp only [putF, rd, Frame.get]
    refine r_nil (c_keep ?_)
    dsimp only [List.map]
    dsimp only [putF, rd, Frame.get]
    with_reducible (refine on_n ?_; refine c_ret ?_)
    try dsimp only
    unfold __rope_maker__do_r
    refine w_tmp (w_nil ?_)
    dsimp only [retV, Frame.get]
    refine ⟨_, ⟨rfl, x', ml', _, rfl, ?_⟩, hS.eq (by show _ = ((pt lm (.row vm 0 [x']) + ml') + pt l3 (.row v3 0 [.int .i64 o.1, .str o.2.1, .int .i64 o.2.2.1, .int .i64 o.2.2.2.1, .int .i64 o.2.2.2.2.1, .int .i64 o.2.2.2.2.2])) + mf; ac_rfl)⟩
    rw [List.map_append, List.length_append]; exact hs'
def encO (o : Go.Fu.Op) : List AVal := [.int .i64 o.1, .str o.2.1, .int .i64 o.2.2.1, .int .i64 o.2.2.2.1, .int .i64 o.2.2.2.2.1, .int .i64 o.2.2.2.2.2]
theorem encO_eq (l : List Go.Fu.Op) : l.flatMap (encT tOp) = l.flatMap encO := rfl
theorem encO_at : ∀ {l : List Go.Fu.Op} {j : Nat} {d : Go.Fu.Op}, l[j]? = some d → takeN 6 ((l.flatMap encO).drop (j * 6)) = some [.int .i64 d.1, .str d.2.1, .int .i64 d.2.2.1, .int .i64 d.2.2.2.1, .int .i64 d.2.2.2.2.1, .int .i64 d.2.2.2.2.2]
  | [], j, d, h => by simp at h
  | a :: l, 0, d, h => by simp at h; subst h; rfl
  | a :: l, j + 1, d, h => by
    have := encO_at (l := l) (j := j) (d := d) (by simpa using h)
    rw [show (j + 1) * 6 = j * 6 + 6 by omega, List.flatMap_cons, show encO a = [.int .i64 a.1, .str a.2.1, .int .i64 a.2.2.1, .int .i64 a.2.2.2.1, .int .i64 a.2.2.2.2.1, .int .i64 a.2.2.2.2.2] from rfl, List.drop_append]
    simpa using this

theorem play_walk (hP : Con Try.prog f_pos_Of pos_Of_ct) (hH : Con Try.prog f_poly_Of poly_Of_ct) (hPJ : Con Try.prog f_pos_Join pos_Join_ct) (hHJ : Con Try.prog f_poly_Join poly_Join_ct) (l : List Go.Fu.Op) (hp : opsFit l) :
    HC Try.prog f_rope_play [.ros l.length (l.flatMap encO)] HM.nil fun r m' => (80 < l.length ∧ r = .tup [.nils, .nils, .int .i64 1]) ∨ (¬ 80 < l.length ∧ ∃ x ml p2 v2 X, r = .tup [x, .sl p2 v2 0 l.length, .int .i64 0] ∧ SlR 1 x ((ropeRun l).map fun r => ropeO r) (ropeRun l).length ml ∧
      m' = ml + (pt p2 (.row v2 1 ((opsC [] l).map (.int .i64))) + X)) := by
  obtain ⟨hl, hd⟩ := hp
  have hl : l.length ≤ 140737488351232 := hl
  intro S mf hS
  refine rope_play_ok.out rfl ?_ (by simp [rope_play_fi])
  unfold vcFun rope_play_fi
  dsimp only
  unfold rope_play_c
  dsimp only [argF]
  with_reducible (refine c_seq ?_)
  refine c_ops ?_
  refine r_op (o_mov (s_no ?_))
  dsimp only [putF, rd, Frame.get]
  refine r_op (o_mov (s_no ?_))
  dsimp only [putF, rd, Frame.get]
  refine r_op (o_mov (s_no ?_))
  dsimp only [putF, rd, Frame.get]
  refine r_nil (c_keep ?_)
  dsimp only [List.map]
  dsimp only [putF, rd, Frame.get]
  with_reducible (refine on_n ?_; refine c_seq ?_; refine c_seq ?_)
  refine c_ops ?_
  refine r_op (o_mov (s_no ?_))
  dsimp only [putF, rd, Frame.get]
  refine r_op (o_len rfl (s_no ?_))
  dsimp only [putF, rd, Frame.get]
  refine r_op (o_bin rfl (by first | trivial | (unfold inI64; omega)) (s_no ?_))
  dsimp only [putF, rd, Frame.get]
  refine r_nil (c_keep ?_)
  dsimp only [List.map]
  dsimp only [putF, rd, Frame.get]
  with_reducible (refine on_n ?_)
  refine c_dec rfl (fun hc => ?_) (fun hc => ?_)
  · with_reducible (refine c_seq ?_)
    refine c_ops ?_
    refine r_op (o_mov (s_no ?_))
    dsimp only [putF, rd, Frame.get]
    refine r_op (o_mov (s_no ?_))
    dsimp only [putF, rd, Frame.get]
    refine r_op (o_mov (s_no ?_))
    dsimp only [putF, rd, Frame.get]
    refine r_nil (c_keep ?_)
    dsimp only [List.map]
    dsimp only [putF, rd, Frame.get]
    with_reducible (refine on_n ?_; refine c_ret ?_; refine on_r ?_)
    try dsimp only
    unfold rope_play_r
    refine w_tmp (w_tmp (w_tmp (w_nil ?_)))
    dsimp only [retV, Frame.get]
    exact ⟨HM.nil, .inl ⟨by omega, rfl⟩, hS⟩
  have h80 : ¬ 80 < l.length := by omega
  with_reducible (refine c_skip ?_; refine on_n ?_; refine c_seq ?_)
  refine c_ops ?_
  refine r_op (o_build rfl (s_no ?_))
  dsimp only [putF, rd, Frame.get, setCells, over]
  refine r_op (o_box hS rfl fun v13 l13 S hS => s_no ?_)
  dsimp only [putF, rd, Frame.get]
  refine r_op (o_mov (s_no ?_))
  dsimp only [putF, rd, Frame.get]
  refine r_nil (c_keep ?_)
  dsimp only [List.map]
  dsimp only [putF, rd, Frame.get]
  with_reducible (refine on_n ?_; refine c_seq ?_)
  refine c_ops ?_
  refine r_op (o_newnil hS fun v6 l6 S hS => s_no ?_)
  dsimp only [putF, rd, Frame.get]
  refine r_nil (c_keep ?_)
  dsimp only [List.map]
  dsimp only [putF, rd, Frame.get]
  with_reducible (refine on_n ?_; refine c_seq ?_; refine c_seq ?_)
  refine c_ops ?_
  refine r_op (o_mov (s_no ?_))
  dsimp only [putF, rd, Frame.get]
  refine r_op (o_len rfl (s_no ?_))
  dsimp only [putF, rd, Frame.get]
  refine r_op (o_mov (s_no ?_))
  dsimp only [putF, rd, Frame.get]
  refine r_nil (c_keep ?_)
  dsimp only [List.map]
  dsimp only [putF, rd, Frame.get]
  with_reducible (refine on_n ?_; refine c_block ?_)
  refine c_loop (fun n xs S => ∃ (j p2 v2 : Nat) (x : AVal) (ml X : HM), xs = [.sl p2 v2 0 j, .int .i64 (j : Int)] ∧ j ≤ l.length ∧ n = l.length - j ∧ SlR 1 x ((ropeRun (l.take j)).map fun r => ropeO r) (ropeRun (l.take j)).length ml ∧
    Has S (MkR (ropeRun (l.take j)) l13 v13 x ml + (pt p2 (.row v2 1 ((opsC [] (l.take j)).map (.int .i64))) + (X + mf)))) l.length ⟨0, l6, v6, .nils, HM.nil, HM.nil, rfl, Nat.zero_le _, rfl, .nil, hS.eq (by show _ = (pt l13 (.row v13 0 [.nils]) + HM.nil) + (pt l6 (.row v6 1 []) + (HM.nil + mf)); ac_rfl)⟩ ?_
  clear hS
  rintro n xs S hl' ⟨j, p2, v2, x, ml, X, rfl, hj, rfl, hm, hS⟩
  dsimp only [zipF, List.map, Frame.get]
  with_reducible (refine c_seq ?_)
  refine c_ops ?_
  refine r_op (o_bin rfl (by first | trivial | (unfold inI64; omega)) (s_no ?_))
  dsimp only [putF, rd, Frame.get]
  refine r_nil (c_keep ?_)
  dsimp only [List.map]
  dsimp only [putF, rd, Frame.get]
  with_reducible (refine on_n ?_; refine c_seq ?_)
  have cl := opsC_len (l.take j) []
  rw [List.length_take, Nat.min_eq_left hj] at cl
  refine c_dec rfl (fun hlt => ?_) (fun hlt => ?_)
  · obtain ⟨d, hdj⟩ : ∃ d, l[j]? = some d := ⟨_, List.getElem?_eq_getElem (by omega)⟩
    have ht := encO_at hdj
    have e1 : l.take (j + 1) = l.take j ++ [d] := by rw [List.take_add_one, hdj]; rfl
    have ok := (rope_run (l.take j)).1
    have hfit : d.2.1.length ≤ 140737488351232 := (hd d (List.mem_of_getElem? hdj)).2.1
    have eo := (rope_run (l.take j)).2
    with_reducible (refine c_skip ?_; refine on_n ?_; refine c_seq ?_; refine c_block ?_; refine c_seq ?_)
    refine c_ops ?_
    refine r_op (o_iaddrR rfl rfl (by omega) (by assumption) (s_no ?_))
    dsimp only [putF, rd, Frame.get]
    refine r_op (o_loadR rfl rfl rfl (s_no ?_))
    dsimp only [putF, rd, Frame.get]
    refine r_op (o_alloc hS fun v8 l8 S hS => s_no ?_)
    dsimp only [putF, rd, Frame.get]
    refine r_op (o_store hS rfl rfl rfl rfl (by simp) fun S hS => s_no ?_)
    dsimp only [putF, rd, Frame.get]
    dsimp only [putF, rd, Frame.get, setCells, over] at hS
    refine r_nil (c_keep ?_)
    dsimp only [List.map]
    dsimp only [putF, rd, Frame.get]
    with_reducible (refine on_n ?_)
    refine c_ops ?_
    refine r_op (o_mov (s_no ?_))
    dsimp only [putF, rd, Frame.get]
    refine r_op (o_mov (s_no ?_))
    dsimp only [putF, rd, Frame.get]
    refine r_op (o_load hS rfl rfl rfl rfl (s_no ?_))
    dsimp only [putF, rd, Frame.get]
    refine r_op (o_call ?_)
    dsimp only [List.map, putF, rd, Frame.get]
    refine HC.use (do_walk hP hH hPJ hHJ (o := d) hm ok hfit) hS ?_; rintro r m' S ⟨rfl, x', ml', X', rfl, hm'⟩ hS
    refine s_no ?_
    refine r_op (o_bsliceR rfl (s_no ?_))
    dsimp only [putF, rd, Frame.get, setCells, over]
    refine r_op ?_
    refine o_appendX hS rfl (SrcOf.one rfl) rfl (by simp [cl]) (by omega) fun v2' S hS => ?_
    refine s_no ?_
    dsimp only [putF, rd, Frame.get]
    refine r_op (o_mov (s_no ?_))
    dsimp only [putF, rd, Frame.get]
    refine r_nil (c_keep ?_)
    dsimp only [List.map]
    dsimp only [putF, rd, Frame.get]
    with_reducible (refine ob_n ?_; refine on_n ?_)
    refine c_ops ?_
    refine r_op (o_bin rfl (by first | trivial | (unfold inI64; omega)) (s_no ?_))
    dsimp only [putF, rd, Frame.get]
    refine r_op (o_mov (s_no ?_))
    dsimp only [putF, rd, Frame.get]
    refine r_nil (c_keep ?_)
    dsimp only [List.map]
    dsimp only [putF, rd, Frame.get]
    with_reducible (refine on_n ?_)
    refine ⟨l.length - (j + 1), by omega, j + 1, p2, v2', x', ml', X' + (X + pt l8 (.row v8 0 [.int .i64 d.1, .str d.2.1, .int .i64 d.2.2.1, .int .i64 d.2.2.2.1, .int .i64 d.2.2.2.2.1, .int .i64 d.2.2.2.2.2])), rfl, by omega, rfl, ?_, ?_⟩
    · rw [e1, ropeRun_snoc]; exact hm'
    · rw [e1, ropeRun_snoc, opsC_snoc, List.map_append]
      refine hS.eq ?_
      rw [eo]
      show _ = MkR _ l13 v13 x' ml' + (pt p2 (.row v2' 1 ((opsC [] (l.take j)).map (.int .i64) ++ [.int .i64 (opCode ((l.take j).foldl opNext []) d)])) + _)
      ac_rfl
  · obtain rfl : j = l.length := by omega
    rw [List.take_of_length_le (Nat.le_refl _)] at hS hm
    with_reducible (refine c_exit ?_; refine on_e ?_; refine on_e ?_; refine ob_e ?_; refine on_n ?_; refine c_seq ?_)
    refine c_ops ?_
    refine r_op (o_mov (s_no ?_))
    dsimp only [putF, rd, Frame.get]
    refine r_op (o_nilchk rfl (s_no ?_))
    dsimp only [putF, rd, Frame.get]
    refine r_op (o_faddr rfl (s_no ?_))
    dsimp only [putF, rd, Frame.get]
    simp only [Nat.zero_mul, Nat.mul_zero, Nat.mul_one, Nat.add_zero, Nat.zero_add, Nat.sub_zero, Nat.reduceAdd, Nat.reduceMul]
    refine r_op (o_load hS rfl rfl rfl rfl (s_no ?_))
    dsimp only [putF, rd, Frame.get]
    refine r_op (o_mov (s_no ?_))
    dsimp only [putF, rd, Frame.get]
    refine r_op (o_mov (s_no ?_))
    dsimp only [putF, rd, Frame.get]
    refine r_op (o_mov (s_no ?_))
    dsimp only [putF, rd, Frame.get]
    refine r_op (o_mov (s_no ?_))
    dsimp only [putF, rd, Frame.get]
    refine r_nil (c_keep ?_)
    dsimp only [List.map]
    dsimp only [putF, rd, Frame.get]
    with_reducible (refine on_n ?_; refine c_ret ?_)
    try dsimp only
    unfold rope_play_r
    refine w_tmp (w_tmp (w_tmp (w_nil ?_)))
    dsimp only [retV, Frame.get]
    exact ⟨_, .inr ⟨h80, x, ml, p2, v2, _, rfl, hm, rfl⟩, hS.eq (by show (pt l13 (.row v13 0 [x]) + ml) + (pt p2 (.row v2 1 ((opsC [] l).map (.int .i64))) + (X + mf)) = ml + (pt p2 (.row v2 1 ((opsC [] l).map (.int .i64))) + (X + pt l13 (.row v13 0 [x]))) + mf; ac_rfl)⟩
theorem pos_flat (L : List Ro) : List.flatMap (encT tPos) (L.map fun r => posOf (txtO r)) = L.flatMap fun r => encT tPos (posOf (txtO r)) := by
  induction L with
  | nil => rfl
  | cons a L ih => exact congrArg (fun z => encT tPos (posOf (txtO a)) ++ z) ih
theorem hash_flat (L : List Ro) : List.flatMap (encT tHash) (L.map fun r => polyOf (txtO r)) = L.flatMap fun r => encT tHash (polyOf (txtO r)) := by
  induction L with
  | nil => rfl
  | cons a L ih => exact congrArg (fun z => encT tHash (polyOf (txtO a)) ++ z) ih
theorem map_int (l : List Int) : l.map (AVal.int .i64) = l.flatMap (encT tI) := by
  induction l with
  | nil => rfl
  | cons a l ih => exact congrArg (fun z => AVal.int .i64 a :: z) ih
theorem ropes_take {all : List Ro} {j : Nat} (h : j < all.length) : all[j]? = some (gt all (j : Int)) := by rw [gt_nat_in h]; exact List.getElem?_eq_getElem h
end Go.Proofs.Ytgiglabejffciaa.H
