/- The order of marks: walked. Conditions: none. -/
import Derived.Test.YtoiebdgnfjgcpaaM3
import Derived.Test.YtoiebdgnfjgcpaaVpOM
set_option linter.unusedVariables false
set_option linter.unusedSimpArgs false
set_option maxRecDepth 100000
namespace Go.Proofs.Ytoiebdgnfjgcpaa.M
open Go.Vc Go.Fu
abbrev encM (ms : List MarkB) : List AVal := ms.flatMap (encT tMark)
theorem encM_at : ∀ {l : List MarkB} {j : Nat} {d : MarkB}, l[j]? = some d → takeN 2 ((encM l).drop (j * 2)) = some [.int .i64 d.1, .bool d.2]
  | [], j, d, h => by simp at h
  | a :: l, 0, d, h => by simp at h; subst h; rfl
  | a :: l, j + 1, d, h => by
    have := encM_at (l := l) (j := j) (d := d) (by simpa using h)
    rw [show (j + 1) * 2 = j * 2 + 2 by omega, show encM (a :: l) = [.int .i64 a.1, .bool a.2] ++ encM l from rfl, List.drop_append]
    simpa using this
abbrev sideE : List (AVal × AVal) := [(.bool true, .int .i64 1)]
theorem side_keys : Keys .bool sideE := fun e he => by simp only [List.mem_singleton] at he; subst he; rfl
theorem side_look (b : Bool) : lookM false (.int .i64 0) (.bool b) sideE = .int .i64 (sdOf b) := by cases b <;> rfl
abbrev OrdM (l1 v1 l4 v4 lm vm : Nat) (ms : List MarkB) : HM := pt l1 (.row v1 0 [.ros ms.length (encM ms)]) + (pt l4 (.row v4 0 [.map lm vm]) + pt lm (.mapo vm sideE))
theorem cmp_use (hC : Con Try.prog f_cmp_Compare_int_ cmp_Compare_int__ct) {x y : Int} {S : Store} {K : AVal → Store → Prop} (h : K (.int .i64 (cmpI x y)) S) : ACalls Try.prog f_cmp_Compare_int_ [.int .i64 x, .int .i64 y] S K := hC.plain (x, y) trivial rfl h
theorem or_use (hC : Con Try.prog f_cmp_Or_int_ cmp_Or_int__ct) {x y : Int} {S : Store} {K : AVal → Store → Prop} (h : K (.int .i64 (orL [x, y])) S) : ACalls Try.prog f_cmp_Or_int_ [.ros 2 [.int .i64 x, .int .i64 y]] S K := hC.plain [x, y] (by show [x, y].length ≤ _; simp) rfl h

theorem by_walk (hC : Con Try.prog f_cmp_Compare_int_ cmp_Compare_int__ct) (hO : Con Try.prog f_cmp_Or_int_ cmp_Or_int__ct) {l1 v1 l4 v4 lm vm : Nat} (ms : List MarkB) : Cmp f_marks_Order_1 [.ptr l1 v1 0, .ptr l4 v4 0] (OrdM l1 v1 l4 v4 lm vm ms) (mkCf ms) (fun i => 0 ≤ i ∧ i < ms.length) := by
  rintro x y ⟨x0, x1⟩ ⟨y0, y1⟩ S mf hS
  obtain ⟨i, rfl⟩ : ∃ i : Nat, x = (i : Int) := ⟨x.toNat, by omega⟩
  obtain ⟨j, rfl⟩ : ∃ j : Nat, y = (j : Int) := ⟨y.toNat, by omega⟩
  have hk := side_keys
  have e1 := gt_get? x0 x1
  have e2 := gt_get? y0 y1
  rw [Int.toNat_natCast] at e1 e2
  have t1 := encM_at e1
  have t2 := encM_at e2
  unfold mkCf
  generalize gt ms (i : Int) = a at *
  generalize gt ms (j : Int) = b at *
  refine marks_Order_1_ok.out rfl ?_ (by simp [marks_Order_1_fi])
  unfold vcFun marks_Order_1_fi
  dsimp only
  unfold marks_Order_1_c
  dsimp only [argF]
  repeat (with_reducible first | refine c_seq ?_ | refine on_n ?_ | refine c_skip ?_ | refine c_block ?_ | refine on_r ?_ | refine c_ret ?_ | refine c_exit ?_ | refine on_e ?_ | refine ob_e ?_ | refine ob_n ?_ | refine ob_r ?_ | refine ob_x rfl ?_)
  refine c_ops ?_
  refine r_op (o_mov (s_no ?_))
  try dsimp only [putF, rd, Frame.get]
  refine r_nil (c_keep ?_)
  try dsimp only [List.map]
  try dsimp only [putF, rd, Frame.get]
  repeat (with_reducible first | refine c_seq ?_ | refine on_n ?_ | refine c_skip ?_ | refine c_block ?_ | refine on_r ?_ | refine c_ret ?_ | refine c_exit ?_ | refine on_e ?_ | refine ob_e ?_ | refine ob_n ?_ | refine ob_r ?_ | refine ob_x rfl ?_)
  refine c_opsD0 hS fun S hS => ?_
  first | refine d_op (q_op rfl (o_load hS rfl rfl rfl rfl (s_no ?_))) | refine d_op (q_op rfl (o_load hS rfl rfl (by assumption) rfl (s_no ?_))) | refine d_op (q_op rfl (o_loadR rfl rfl rfl (s_no ?_))) | refine d_op (q_op rfl (o_loadR rfl (by assumption) rfl (s_no ?_)))
  try dsimp only [putF, rd, Frame.get]
  refine d_op (q_op rfl (o_mov (s_no ?_)))
  try dsimp only [putF, rd, Frame.get]
  first | refine d_op (q_op rfl (o_iaddr hS rfl rfl rfl (by omega) (s_no ?_))) | refine d_op (q_op rfl (o_iaddrR rfl rfl (by omega) (by assumption) (s_no ?_))) | refine d_op (q_op rfl (o_iaddrA rfl rfl (by omega) (s_no ?_))) | refine d_op (q_op rfl (o_iaddrAR rfl rfl (by omega) (s_no ?_)))
  try dsimp only [putF, rd, Frame.get]
  try simp only [Nat.zero_mul, Nat.mul_zero, Nat.mul_one, Nat.add_zero, Nat.zero_add, Nat.sub_zero, Nat.reduceAdd, Nat.reduceMul]
  first | refine d_op (q_op rfl (o_faddr rfl (s_no ?_))) | refine d_op (q_op rfl (o_faddrR rfl (s_no ?_)))
  try dsimp only [putF, rd, Frame.get]
  try simp only [Nat.zero_mul, Nat.mul_zero, Nat.mul_one, Nat.add_zero, Nat.zero_add, Nat.sub_zero, Nat.reduceAdd, Nat.reduceMul]
  first | refine d_op (q_op rfl (o_load hS rfl rfl rfl rfl (s_no ?_))) | refine d_op (q_op rfl (o_load hS rfl rfl (by assumption) rfl (s_no ?_))) | refine d_op (q_op rfl (o_loadR rfl rfl rfl (s_no ?_))) | refine d_op (q_op rfl (o_loadR rfl (by assumption) rfl (s_no ?_)))
  try dsimp only [putF, rd, Frame.get]
  first | refine d_op (q_op rfl (o_load hS rfl rfl rfl rfl (s_no ?_))) | refine d_op (q_op rfl (o_load hS rfl rfl (by assumption) rfl (s_no ?_))) | refine d_op (q_op rfl (o_loadR rfl rfl rfl (s_no ?_))) | refine d_op (q_op rfl (o_loadR rfl (by assumption) rfl (s_no ?_)))
  try dsimp only [putF, rd, Frame.get]
  refine d_op (q_op rfl (o_mov (s_no ?_)))
  try dsimp only [putF, rd, Frame.get]
  first | refine d_op (q_op rfl (o_iaddr hS rfl rfl rfl (by omega) (s_no ?_))) | refine d_op (q_op rfl (o_iaddrR rfl rfl (by omega) (by assumption) (s_no ?_))) | refine d_op (q_op rfl (o_iaddrA rfl rfl (by omega) (s_no ?_))) | refine d_op (q_op rfl (o_iaddrAR rfl rfl (by omega) (s_no ?_)))
  try dsimp only [putF, rd, Frame.get]
  try simp only [Nat.zero_mul, Nat.mul_zero, Nat.mul_one, Nat.add_zero, Nat.zero_add, Nat.sub_zero, Nat.reduceAdd, Nat.reduceMul]
  first | refine d_op (q_op rfl (o_faddr rfl (s_no ?_))) | refine d_op (q_op rfl (o_faddrR rfl (s_no ?_)))
  try dsimp only [putF, rd, Frame.get]
  try simp only [Nat.zero_mul, Nat.mul_zero, Nat.mul_one, Nat.add_zero, Nat.zero_add, Nat.sub_zero, Nat.reduceAdd, Nat.reduceMul]
  first | refine d_op (q_op rfl (o_load hS rfl rfl rfl rfl (s_no ?_))) | refine d_op (q_op rfl (o_load hS rfl rfl (by assumption) rfl (s_no ?_))) | refine d_op (q_op rfl (o_loadR rfl rfl rfl (s_no ?_))) | refine d_op (q_op rfl (o_loadR rfl (by assumption) rfl (s_no ?_)))
  try dsimp only [putF, rd, Frame.get]
  first | refine d_op (q_op rfl (o_load hS rfl rfl rfl rfl (s_no ?_))) | refine d_op (q_op rfl (o_load hS rfl rfl (by assumption) rfl (s_no ?_))) | refine d_op (q_op rfl (o_loadR rfl rfl rfl (s_no ?_))) | refine d_op (q_op rfl (o_loadR rfl (by assumption) rfl (s_no ?_)))
  try dsimp only [putF, rd, Frame.get]
  first | refine d_op (q_op rfl (o_load hS rfl rfl rfl rfl (s_no ?_))) | refine d_op (q_op rfl (o_load hS rfl rfl (by assumption) rfl (s_no ?_))) | refine d_op (q_op rfl (o_loadR rfl rfl rfl (s_no ?_))) | refine d_op (q_op rfl (o_loadR rfl (by assumption) rfl (s_no ?_)))
  try dsimp only [putF, rd, Frame.get]
  refine d_op (q_op rfl (o_mov (s_no ?_)))
  try dsimp only [putF, rd, Frame.get]
  first | refine d_op (q_op rfl (o_iaddr hS rfl rfl rfl (by omega) (s_no ?_))) | refine d_op (q_op rfl (o_iaddrR rfl rfl (by omega) (by assumption) (s_no ?_))) | refine d_op (q_op rfl (o_iaddrA rfl rfl (by omega) (s_no ?_))) | refine d_op (q_op rfl (o_iaddrAR rfl rfl (by omega) (s_no ?_)))
  try dsimp only [putF, rd, Frame.get]
  try simp only [Nat.zero_mul, Nat.mul_zero, Nat.mul_one, Nat.add_zero, Nat.zero_add, Nat.sub_zero, Nat.reduceAdd, Nat.reduceMul]
  first | refine d_op (q_op rfl (o_faddr rfl (s_no ?_))) | refine d_op (q_op rfl (o_faddrR rfl (s_no ?_)))
  try dsimp only [putF, rd, Frame.get]
  try simp only [Nat.zero_mul, Nat.mul_zero, Nat.mul_one, Nat.add_zero, Nat.zero_add, Nat.sub_zero, Nat.reduceAdd, Nat.reduceMul]
  first | refine d_op (q_op rfl (o_load hS rfl rfl rfl rfl (s_no ?_))) | refine d_op (q_op rfl (o_load hS rfl rfl (by assumption) rfl (s_no ?_))) | refine d_op (q_op rfl (o_loadR rfl rfl rfl (s_no ?_))) | refine d_op (q_op rfl (o_loadR rfl (by assumption) rfl (s_no ?_)))
  try dsimp only [putF, rd, Frame.get]
  refine d_op (q_op rfl ?_)
  refine o_mlook hS rfl rfl rfl hk ?_; dsimp only [putF, rd, Frame.get]; rw [side_look]
  refine s_no ?_
  try dsimp only [putF, rd, Frame.get]
  first | refine d_op (q_op rfl (o_load hS rfl rfl rfl rfl (s_no ?_))) | refine d_op (q_op rfl (o_load hS rfl rfl (by assumption) rfl (s_no ?_))) | refine d_op (q_op rfl (o_loadR rfl rfl rfl (s_no ?_))) | refine d_op (q_op rfl (o_loadR rfl (by assumption) rfl (s_no ?_)))
  try dsimp only [putF, rd, Frame.get]
  first | refine d_op (q_op rfl (o_load hS rfl rfl rfl rfl (s_no ?_))) | refine d_op (q_op rfl (o_load hS rfl rfl (by assumption) rfl (s_no ?_))) | refine d_op (q_op rfl (o_loadR rfl rfl rfl (s_no ?_))) | refine d_op (q_op rfl (o_loadR rfl (by assumption) rfl (s_no ?_)))
  try dsimp only [putF, rd, Frame.get]
  refine d_op (q_op rfl (o_mov (s_no ?_)))
  try dsimp only [putF, rd, Frame.get]
  first | refine d_op (q_op rfl (o_iaddr hS rfl rfl rfl (by omega) (s_no ?_))) | refine d_op (q_op rfl (o_iaddrR rfl rfl (by omega) (by assumption) (s_no ?_))) | refine d_op (q_op rfl (o_iaddrA rfl rfl (by omega) (s_no ?_))) | refine d_op (q_op rfl (o_iaddrAR rfl rfl (by omega) (s_no ?_)))
  try dsimp only [putF, rd, Frame.get]
  try simp only [Nat.zero_mul, Nat.mul_zero, Nat.mul_one, Nat.add_zero, Nat.zero_add, Nat.sub_zero, Nat.reduceAdd, Nat.reduceMul]
  first | refine d_op (q_op rfl (o_faddr rfl (s_no ?_))) | refine d_op (q_op rfl (o_faddrR rfl (s_no ?_)))
  try dsimp only [putF, rd, Frame.get]
  try simp only [Nat.zero_mul, Nat.mul_zero, Nat.mul_one, Nat.add_zero, Nat.zero_add, Nat.sub_zero, Nat.reduceAdd, Nat.reduceMul]
  first | refine d_op (q_op rfl (o_load hS rfl rfl rfl rfl (s_no ?_))) | refine d_op (q_op rfl (o_load hS rfl rfl (by assumption) rfl (s_no ?_))) | refine d_op (q_op rfl (o_loadR rfl rfl rfl (s_no ?_))) | refine d_op (q_op rfl (o_loadR rfl (by assumption) rfl (s_no ?_)))
  try dsimp only [putF, rd, Frame.get]
  refine d_op (q_op rfl ?_)
  refine o_mlook hS rfl rfl rfl hk ?_; dsimp only [putF, rd, Frame.get]; rw [side_look]
  refine s_no ?_
  try dsimp only [putF, rd, Frame.get]
  refine d_op (q_call _ (cmp_use hC ⟨rfl, rfl⟩) ?_)
  refine s_no ?_
  try dsimp only [putF, rd, Frame.get]
  refine d_zero ?_
  refine r_op (o_call ?_)
  dsimp only [List.map, putF, rd, Frame.get]
  refine cmp_use hC ?_
  refine s_no ?_
  try dsimp only [putF, rd, Frame.get]
  refine r_op (o_bsliceR rfl (s_no ?_))
  try dsimp only [putF, rd, Frame.get, setCells, over]
  try dsimp only [putF, rd, Frame.get, setCells, over] at hS
  refine r_op (o_call ?_)
  dsimp only [List.map, putF, rd, Frame.get]
  refine or_use hO ?_
  refine s_no ?_
  try dsimp only [putF, rd, Frame.get]
  refine r_op (o_mov (s_no ?_))
  try dsimp only [putF, rd, Frame.get]
  refine r_nil (c_keep ?_)
  try dsimp only [List.map]
  try dsimp only [putF, rd, Frame.get]
  repeat (with_reducible first | refine c_seq ?_ | refine on_n ?_ | refine c_skip ?_ | refine c_block ?_ | refine on_r ?_ | refine c_ret ?_ | refine c_exit ?_ | refine on_e ?_ | refine ob_e ?_ | refine ob_n ?_ | refine ob_r ?_ | refine ob_x rfl ?_)
  try dsimp only
  unfold marks_Order_1_r
  refine w_tmp (w_nil ?_)
  try dsimp only [retV, Frame.get]
  exact ⟨_, ⟨rfl, HM.nil, (HM.add_nil _).symm⟩, hS⟩
theorem map_int (l : List Int) : I64 l = l.flatMap (encT tI) := by
  induction l with
  | nil => rfl
  | cons a l ih => exact congrArg (fun z => AVal.int .i64 a :: z) ih

theorem Order_walk (hC : Con Try.prog f_cmp_Compare_int_ cmp_Compare_int__ct) (hO : Con Try.prog f_cmp_Or_int_ cmp_Or_int__ct) (ms : List MarkB) :
    HC Try.prog f_marks_Order [.ros ms.length (encM ms)] HM.nil fun r m' => (60 < ms.length ∧ r = .tup [.nils, .int .i64 1]) ∨ (¬ 60 < ms.length ∧ ∃ p v X, r = .tup [.sl p v 0 ms.length, .int .i64 0] ∧ m' = pt p (.row v 1 (I64 (stab (mkLt ms) (upTo ms.length)))) + X) := by
  intro S mf hS
  rw [HM.nil_add] at hS
  refine marks_Order_ok.out rfl ?_ (by simp [marks_Order_fi])
  unfold vcFun marks_Order_fi
  dsimp only
  unfold marks_Order_c
  dsimp only [argF]
  repeat (with_reducible first | refine c_seq ?_ | refine on_n ?_ | refine c_skip ?_ | refine c_block ?_ | refine on_r ?_ | refine c_ret ?_ | refine c_exit ?_ | refine on_e ?_ | refine ob_e ?_ | refine ob_n ?_ | refine ob_r ?_ | refine ob_x rfl ?_)
  refine c_ops ?_
  refine r_op (o_box hS rfl fun v1 l1 S hS => s_no ?_)
  try dsimp only [putF, rd, Frame.get]
  try dsimp only [putF, rd, Frame.get, setCells, over] at hS
  refine r_op (o_mov (s_no ?_))
  try dsimp only [putF, rd, Frame.get]
  refine r_op (o_mov (s_no ?_))
  try dsimp only [putF, rd, Frame.get]
  refine r_nil (c_keep ?_)
  try dsimp only [List.map]
  try dsimp only [putF, rd, Frame.get]
  repeat (with_reducible first | refine c_seq ?_ | refine on_n ?_ | refine c_skip ?_ | refine c_block ?_ | refine on_r ?_ | refine c_ret ?_ | refine c_exit ?_ | refine on_e ?_ | refine ob_e ?_ | refine ob_n ?_ | refine ob_r ?_ | refine ob_x rfl ?_)
  refine c_ops ?_
  first | refine r_op (o_load hS rfl rfl rfl rfl (s_no ?_)) | refine r_op (o_load hS rfl rfl (by assumption) rfl (s_no ?_)) | refine r_op (o_loadR rfl rfl rfl (s_no ?_)) | refine r_op (o_loadR rfl (by assumption) rfl (s_no ?_))
  try dsimp only [putF, rd, Frame.get]
  refine r_op (o_len rfl (s_no ?_))
  try dsimp only [putF, rd, Frame.get]
  refine r_op (o_bin rfl (by first | trivial | (unfold inI64; omega)) (s_no ?_))
  try dsimp only [putF, rd, Frame.get]
  refine r_nil (c_keep ?_)
  try dsimp only [List.map]
  try dsimp only [putF, rd, Frame.get]
  repeat (with_reducible first | refine c_seq ?_ | refine on_n ?_ | refine c_skip ?_ | refine c_block ?_ | refine on_r ?_ | refine c_ret ?_ | refine c_exit ?_ | refine on_e ?_ | refine ob_e ?_ | refine ob_n ?_ | refine ob_r ?_ | refine ob_x rfl ?_)
  refine c_dec rfl (fun hc => ?_) (fun hc => ?_)
  · repeat (with_reducible first | refine c_seq ?_ | refine on_n ?_ | refine c_skip ?_ | refine c_block ?_ | refine on_r ?_ | refine c_ret ?_ | refine c_exit ?_ | refine on_e ?_ | refine ob_e ?_ | refine ob_n ?_ | refine ob_r ?_ | refine ob_x rfl ?_)
    refine c_ops ?_
    refine r_op (o_mov (s_no ?_))
    try dsimp only [putF, rd, Frame.get]
    refine r_op (o_mov (s_no ?_))
    try dsimp only [putF, rd, Frame.get]
    refine r_nil (c_keep ?_)
    try dsimp only [List.map]
    try dsimp only [putF, rd, Frame.get]
    repeat (with_reducible first | refine c_seq ?_ | refine on_n ?_ | refine c_skip ?_ | refine c_block ?_ | refine on_r ?_ | refine c_ret ?_ | refine c_exit ?_ | refine on_e ?_ | refine ob_e ?_ | refine ob_n ?_ | refine ob_r ?_ | refine ob_x rfl ?_)
    try dsimp only
    unfold marks_Order_r
    refine w_tmp (w_tmp (w_nil ?_))
    try dsimp only [retV, Frame.get]
    exact ⟨_, .inl ⟨by omega, rfl⟩, hS⟩
  have h60 : ¬ 60 < ms.length := by omega
  have hk0 : Keys .bool [] := Keys.nil
  repeat (with_reducible first | refine c_seq ?_ | refine on_n ?_ | refine c_skip ?_ | refine c_block ?_ | refine on_r ?_ | refine c_ret ?_ | refine c_exit ?_ | refine on_e ?_ | refine ob_e ?_ | refine ob_n ?_ | refine ob_r ?_ | refine ob_x rfl ?_)
  refine c_ops ?_
  refine r_op (o_mkmap hS fun v10 l10 S hS => s_no ?_)
  try dsimp only [putF, rd, Frame.get]
  refine r_op (o_mupd hS rfl rfl rfl (by assumption) fun S hS => s_no ?_)
  try dsimp only [putF, rd, Frame.get]
  try dsimp only [putF, rd, Frame.get, setCells, over] at hS
  refine r_op (o_mov (s_no ?_))
  try dsimp only [putF, rd, Frame.get]
  refine r_op (o_alloc hS fun v4 l4 S hS => s_no ?_)
  try dsimp only [putF, rd, Frame.get]
  first | refine r_op (o_store hS rfl rfl rfl rfl (by simp) fun S hS => s_no ?_) | refine r_op (o_store hS rfl rfl rfl rfl (by assumption) fun S hS => s_no ?_)
  try dsimp only [putF, rd, Frame.get]
  try dsimp only [putF, rd, Frame.get, setCells, over] at hS
  refine r_nil (c_keep ?_)
  try dsimp only [List.map]
  try dsimp only [putF, rd, Frame.get]
  repeat (with_reducible first | refine c_seq ?_ | refine on_n ?_ | refine c_skip ?_ | refine c_block ?_ | refine on_r ?_ | refine c_ret ?_ | refine c_exit ?_ | refine on_e ?_ | refine ob_e ?_ | refine ob_n ?_ | refine ob_r ?_ | refine ob_x rfl ?_)
  refine c_ops ?_
  refine r_op (o_newnil hS fun v5 l5 S hS => s_no ?_)
  try dsimp only [putF, rd, Frame.get]
  refine r_nil (c_keep ?_)
  try dsimp only [List.map]
  try dsimp only [putF, rd, Frame.get]
  repeat (with_reducible first | refine c_seq ?_ | refine on_n ?_ | refine c_skip ?_ | refine c_block ?_ | refine on_r ?_ | refine c_ret ?_ | refine c_exit ?_ | refine on_e ?_ | refine ob_e ?_ | refine ob_n ?_ | refine ob_r ?_ | refine ob_x rfl ?_)
  refine c_ops ?_
  first | refine r_op (o_load hS rfl rfl rfl rfl (s_no ?_)) | refine r_op (o_load hS rfl rfl (by assumption) rfl (s_no ?_)) | refine r_op (o_loadR rfl rfl rfl (s_no ?_)) | refine r_op (o_loadR rfl (by assumption) rfl (s_no ?_))
  try dsimp only [putF, rd, Frame.get]
  refine r_op (o_len rfl (s_no ?_))
  try dsimp only [putF, rd, Frame.get]
  refine r_op (o_mov (s_no ?_))
  try dsimp only [putF, rd, Frame.get]
  refine r_nil (c_keep ?_)
  try dsimp only [List.map]
  try dsimp only [putF, rd, Frame.get]
  repeat (with_reducible first | refine c_seq ?_ | refine on_n ?_ | refine c_skip ?_ | refine c_block ?_ | refine on_r ?_ | refine c_ret ?_ | refine c_exit ?_ | refine on_e ?_ | refine ob_e ?_ | refine ob_n ?_ | refine ob_r ?_ | refine ob_x rfl ?_)
  refine c_loop (fun k xs S => ∃ (j v5' : Nat), xs = [.sl l5 v5' 0 j, .int .i64 (j : Int)] ∧ j ≤ ms.length ∧ k = ms.length - j ∧ Has S (pt l5 (.row v5' 1 (I64 (upTo j))) + (OrdM l1 v1 l4 v4 l10 v10 ms + mf))) ms.length ⟨0, v5, rfl, Nat.zero_le _, rfl, hS.eq (by show _ = pt l5 (.row v5 1 []) + (pt l1 (.row v1 0 [.ros ms.length (encM ms)]) + (pt l4 (.row v4 0 [.map l10 v10]) + pt l10 (.mapo v10 sideE)) + mf); ac_rfl)⟩ ?_
  clear hS
  rintro k xs S hl' ⟨j, w, rfl, hj, rfl, hS⟩
  dsimp only [zipF, List.map, Frame.get]
  repeat (with_reducible first | refine c_seq ?_ | refine on_n ?_ | refine c_skip ?_ | refine c_block ?_ | refine on_r ?_ | refine c_ret ?_ | refine c_exit ?_ | refine on_e ?_ | refine ob_e ?_ | refine ob_n ?_ | refine ob_r ?_ | refine ob_x rfl ?_)
  refine c_ops ?_
  refine r_op (o_bin rfl (by first | trivial | (unfold inI64; omega)) (s_no ?_))
  try dsimp only [putF, rd, Frame.get]
  refine r_nil (c_keep ?_)
  try dsimp only [List.map]
  try dsimp only [putF, rd, Frame.get]
  repeat (with_reducible first | refine c_seq ?_ | refine on_n ?_ | refine c_skip ?_ | refine c_block ?_ | refine on_r ?_ | refine c_ret ?_ | refine c_exit ?_ | refine on_e ?_ | refine ob_e ?_ | refine ob_n ?_ | refine ob_r ?_ | refine ob_x rfl ?_)
  refine c_dec rfl (fun hlt => ?_) (fun hlt => ?_)
  · repeat (with_reducible first | refine c_seq ?_ | refine on_n ?_ | refine c_skip ?_ | refine c_block ?_ | refine on_r ?_ | refine c_ret ?_ | refine c_exit ?_ | refine on_e ?_ | refine ob_e ?_ | refine ob_n ?_ | refine ob_r ?_ | refine ob_x rfl ?_)
    refine c_ops ?_
    refine r_op (o_mov (s_no ?_))
    try dsimp only [putF, rd, Frame.get]
    refine r_op (o_mov (s_no ?_))
    try dsimp only [putF, rd, Frame.get]
    refine r_nil (c_keep ?_)
    try dsimp only [List.map]
    try dsimp only [putF, rd, Frame.get]
    repeat (with_reducible first | refine c_seq ?_ | refine on_n ?_ | refine c_skip ?_ | refine c_block ?_ | refine on_r ?_ | refine c_ret ?_ | refine c_exit ?_ | refine on_e ?_ | refine ob_e ?_ | refine ob_n ?_ | refine ob_r ?_ | refine ob_x rfl ?_)
    refine c_ops ?_
    refine r_op (o_mov (s_no ?_))
    try dsimp only [putF, rd, Frame.get]
    refine r_op (o_mov (s_no ?_))
    try dsimp only [putF, rd, Frame.get]
    refine r_op (o_bsliceR rfl (s_no ?_))
    try dsimp only [putF, rd, Frame.get, setCells, over]
    try dsimp only [putF, rd, Frame.get, setCells, over] at hS
    refine r_op ?_
    refine o_appendX hS rfl (SrcOf.one rfl) rfl (by rw [List.length_map, upTo_len]; omega) (by omega) fun w' S hS => ?_
    refine s_no ?_
    try dsimp only [putF, rd, Frame.get]
    refine r_op (o_mov (s_no ?_))
    try dsimp only [putF, rd, Frame.get]
    refine r_nil (c_keep ?_)
    try dsimp only [List.map]
    try dsimp only [putF, rd, Frame.get]
    repeat (with_reducible first | refine c_seq ?_ | refine on_n ?_ | refine c_skip ?_ | refine c_block ?_ | refine on_r ?_ | refine c_ret ?_ | refine c_exit ?_ | refine on_e ?_ | refine ob_e ?_ | refine ob_n ?_ | refine ob_r ?_ | refine ob_x rfl ?_)
    refine c_ops ?_
    refine r_op (o_bin rfl (by first | trivial | (unfold inI64; omega)) (s_no ?_))
    try dsimp only [putF, rd, Frame.get]
    refine r_op (o_mov (s_no ?_))
    try dsimp only [putF, rd, Frame.get]
    refine r_nil (c_keep ?_)
    try dsimp only [List.map]
    try dsimp only [putF, rd, Frame.get]
    repeat (with_reducible first | refine c_seq ?_ | refine on_n ?_ | refine c_skip ?_ | refine c_block ?_ | refine on_r ?_ | refine c_ret ?_ | refine c_exit ?_ | refine on_e ?_ | refine ob_e ?_ | refine ob_n ?_ | refine ob_r ?_ | refine ob_x rfl ?_)
    refine ⟨ms.length - (j + 1), by omega, j + 1, w', rfl, by omega, rfl, ?_⟩
    rw [upTo_succ]
    unfold I64
    rw [List.map_append]
    exact hS
  · obtain rfl : j = ms.length := by omega
    repeat (with_reducible first | refine c_seq ?_ | refine on_n ?_ | refine c_skip ?_ | refine c_block ?_ | refine on_r ?_ | refine c_ret ?_ | refine c_exit ?_ | refine on_e ?_ | refine ob_e ?_ | refine ob_n ?_ | refine ob_r ?_ | refine ob_x rfl ?_)
    refine c_ops ?_
    refine r_op (o_mov (s_no ?_))
    try dsimp only [putF, rd, Frame.get]
    refine r_op (o_mkfunc (s_no ?_))
    try dsimp only [putF, rd, Frame.get]
    refine r_op (o_call ?_)
    dsimp only [List.map, putF, rd, Frame.get]
    refine ((sst_walk (by_walk hC hO (lm := l10) (vm := v10) ms) (mk_cf ms) (mk_swo ms) (by omega) (upTo ms.length) (fun x hx => upTo_mem.1 hx) (upTo_len _)) _ mf (hS.eq (by ac_rfl))).mono ?_; rintro r' S ⟨m', ⟨rfl, X', rfl⟩, hS⟩
    refine s_no ?_
    try dsimp only [putF, rd, Frame.get]
    refine r_nil (c_keep ?_)
    try dsimp only [List.map]
    try dsimp only [putF, rd, Frame.get]
    repeat (with_reducible first | refine c_seq ?_ | refine on_n ?_ | refine c_skip ?_ | refine c_block ?_ | refine on_r ?_ | refine c_ret ?_ | refine c_exit ?_ | refine on_e ?_ | refine ob_e ?_ | refine ob_n ?_ | refine ob_r ?_ | refine ob_x rfl ?_)
    refine c_ops ?_
    refine r_op (o_mov (s_no ?_))
    try dsimp only [putF, rd, Frame.get]
    refine r_op (o_mov (s_no ?_))
    try dsimp only [putF, rd, Frame.get]
    refine r_op (o_mov (s_no ?_))
    try dsimp only [putF, rd, Frame.get]
    refine r_nil (c_keep ?_)
    try dsimp only [List.map]
    try dsimp only [putF, rd, Frame.get]
    repeat (with_reducible first | refine c_seq ?_ | refine on_n ?_ | refine c_skip ?_ | refine c_block ?_ | refine on_r ?_ | refine c_ret ?_ | refine c_exit ?_ | refine on_e ?_ | refine ob_e ?_ | refine ob_n ?_ | refine ob_r ?_ | refine ob_x rfl ?_)
    try dsimp only
    unfold marks_Order_r
    refine w_tmp (w_tmp (w_nil ?_))
    try dsimp only [retV, Frame.get]
    exact ⟨_, .inr ⟨h60, _, _, _, rfl, rfl⟩, hS⟩
theorem marks_Order_con' (hC : Con Try.prog f_cmp_Compare_int_ cmp_Compare_int__ct) (hO : Con Try.prog f_cmp_Or_int_ cmp_Or_int__ct) : Con Try.prog f_marks_Order marks_Order_ct := by
  refine ⟨marks_Order_ok.able rfl, fun (ms : List MarkB) hp => ?_⟩
  refine HC.plainly (Order_walk hC hO ms) ?_
  rintro r m' S' (⟨hb, rfl⟩ | ⟨hb, p, v, X, rfl, rfl⟩) hS
  · have e : marksOrder ms = ([], 1) := by unfold marksOrder; rw [if_pos hb]
    refine ⟨_, id, [], LeV.refl _, has_none, [.nils, .int .i64 1], ?_, rfl⟩
    show resA [.own tI, .val tI] (marksOrder ms) 0 _ _
    rw [e]
    exact .inr ⟨rfl, [.int .i64 1], rfl, [], rfl, rfl, rfl⟩
  · have e : marksOrder ms = (stab (mkLt ms) (upTo ms.length), 0) := by unfold marksOrder; rw [if_neg hb]
    have hl : (stab (mkLt ms) (upTo ms.length)).length = ms.length := by rw [stab_len (mk_swo ms), upTo_len]
    rw [map_int] at hS
    refine ⟨.tup [.sl 0 v 0 ms.length, .int .i64 0], _, _, .tup (.cons .sl (.refl _)), has_one hS, [.sl 0 v 0 ms.length, .int .i64 0], ?_, rfl⟩
    show resA [.own tI, .val tI] (marksOrder ms) 0 _ _
    rw [e]
    refine .inl ⟨v, [.int .i64 0], [], ?_, rfl, [], rfl, rfl, rfl⟩
    show _ = AVal.sl 0 v 0 (stab (mkLt ms) (upTo ms.length)).length :: _
    rw [hl]
end Go.Proofs.Ytoiebdgnfjgcpaa.M
