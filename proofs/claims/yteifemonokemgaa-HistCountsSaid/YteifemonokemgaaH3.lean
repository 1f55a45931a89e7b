/- A history that is played, walked over parts of memory. Conditions: none. -/
import Derived.Test.YteifemonokemgaaH2
set_option linter.unusedVariables false
set_option linter.unusedSimpArgs false
set_option maxRecDepth 100000
namespace Go.Proofs.Yteifemonokemgaa.H
open Go.Vc Go.Fu
def encD (d : Deed) : List AVal := [.int .i64 d.1, .int .i64 d.2.1, .int .i64 d.2.2.1, .str d.2.2.2]
theorem encD_eq (l : List Deed) : l.flatMap (encT tDeedH) = l.flatMap encD := rfl
theorem encD_len : ∀ l : List Deed, (l.flatMap encD).length = l.length * 4
  | [] => rfl
  | e :: l => by simp only [List.flatMap_cons, List.length_append, List.length_cons]; rw [encD_len l]; simp [encD]; omega
theorem encD_at : ∀ {l : List Deed} {j : Nat} {d : Deed}, l[j]? = some d → takeN 4 ((l.flatMap encD).drop (j * 4)) = some [.int .i64 d.1, .int .i64 d.2.1, .int .i64 d.2.2.1, .str d.2.2.2]
  | [], j, d, h => by simp at h
  | a :: l, 0, d, h => by simp at h; subst h; rfl
  | a :: l, j + 1, d, h => by
    have := encD_at (l := l) (j := j) (d := d) (by simpa using h)
    rw [show (j + 1) * 4 = j * 4 + 4 by omega, List.flatMap_cons, show encD a = [.int .i64 a.1, .int .i64 a.2.1, .int .i64 a.2.2.1, .str a.2.2.2] from rfl, List.drop_append]
    simpa using this

theorem new_walk (s : Bytes) : HC Try.prog f_hist_New [.str s] HM.nil fun r m' => ∃ lh vh, r = .ptr lh vh 0 ∧ HistR (hNew s) lh vh m' := by
  intro S mf hS
  refine hist_New_ok.out rfl ?_ (by simp [hist_New_fi])
  unfold vcFun hist_New_fi
  dsimp only
  unfold hist_New_c
  dsimp only [argF]
  repeat (with_reducible first | refine c_seq ?_ | refine on_n ?_ | refine c_skip ?_ | refine c_block ?_ | refine on_r ?_ | refine c_ret ?_ | refine c_exit ?_ | refine on_e ?_ | refine ob_e ?_ | refine ob_n ?_ | refine ob_r ?_ | refine ob_x rfl ?_)
  refine c_ops ?_
  refine r_op (o_mov (s_no ?_))
  try dsimp only [putF, rd, Frame.get]
  refine r_nil (c_keep ?_)
  try dsimp only [List.map]
  try dsimp only [putF, rd, Frame.get]
  repeat (with_reducible first | refine c_seq ?_ | refine on_n ?_ | refine c_skip ?_ | refine c_block ?_ | refine on_r ?_ | refine c_ret ?_ | refine c_exit ?_ | refine on_e ?_ | refine ob_e ?_ | refine ob_n ?_ | refine ob_r ?_ | refine ob_x rfl ?_)
  refine c_ops ?_
  refine r_op (o_mov (s_no ?_))
  try dsimp only [putF, rd, Frame.get]
  refine r_op (o_build rfl (s_no ?_))
  try dsimp only [putF, rd, Frame.get, setCells, over]
  refine r_op (o_box hS rfl fun v5 l5 S hS => s_no ?_)
  try dsimp only [putF, rd, Frame.get]
  try dsimp only [putF, rd, Frame.get, setCells, over] at hS
  refine r_op (o_mov (s_no ?_))
  try dsimp only [putF, rd, Frame.get]
  refine r_nil (c_keep ?_)
  try dsimp only [List.map]
  try dsimp only [putF, rd, Frame.get]
  repeat (with_reducible first | refine c_seq ?_ | refine on_n ?_ | refine c_skip ?_ | refine c_block ?_ | refine on_r ?_ | refine c_ret ?_ | refine c_exit ?_ | refine on_e ?_ | refine ob_e ?_ | refine ob_n ?_ | refine ob_r ?_ | refine ob_x rfl ?_)
  dsimp only
  unfold hist_New_r
  refine w_tmp (w_nil ?_)
  dsimp only [retV, Frame.get]
  exact ⟨pt l5 (.row v5 0 [.str s, .nils, .nils, .bool false]) + (HM.nil + (HM.nil + (HM.nil + HM.nil))), ⟨l5, v5, rfl, .nils, .nils, [], [], HM.nil, HM.nil, HM.nil, HM.nil, rfl, SlR.nil, ⟨rfl, rfl⟩, SlR.nil, ⟨rfl, rfl⟩⟩, hS.eq (by ac_rfl)⟩
/-- What play hands back. -/
def PlayR (s : Bytes) (l : List Deed) (r : AVal) (m' : HM) : Prop :=
  (histBig s l ∧ r = .tup [.nilp, .nils, .nils, .int .i64 1]) ∨ (¬ histBig s l ∧ ∃ lh vh p1 v1 p2 v2 mh, r = .tup [.ptr lh vh 0, .sl p1 v1 0 l.length, .sl p2 v2 0 l.length, .int .i64 0] ∧ HistR (hEnd (hNew s) l) lh vh mh ∧
    m' = pt p1 (.row v1 1 ((hTexts (hNew s) l).map .str)) + (pt p2 (.row v2 1 ((hCodes (hNew s) l).map (.int .i64))) + mh))

theorem play_walk (hCk : Con Try.prog f_edit_Check edit_Check_ct) (hMd : Con Try.prog f_edit_Made edit_Made_ct) (hUn : Con Try.prog f_edit_Undo edit_Undo_ct) (s : Bytes) (l : List Deed) (hp : histPre s l) :
    HC Try.prog f_hist_play [.str s, .ros l.length (l.flatMap encD)] HM.nil (PlayR s l) := by
  obtain ⟨hs, hl, hd⟩ := hp
  have hs : s.length ≤ 140737488351232 := hs
  have hl : l.length ≤ 140737488351232 := hl
  intro S mf hS
  have hS := hS.right
  refine hist_play_ok.out rfl ?_ (by simp [hist_play_fi])
  unfold vcFun hist_play_fi
  dsimp only
  unfold hist_play_c
  dsimp only [argF]
  repeat (with_reducible first | refine c_seq ?_ | refine on_n ?_ | refine c_skip ?_ | refine c_block ?_ | refine on_r ?_ | refine c_ret ?_ | refine c_exit ?_ | refine on_e ?_ | refine ob_e ?_ | refine ob_n ?_ | refine ob_r ?_ | refine ob_x rfl ?_)
  refine c_ops ?_
  refine r_op (o_mov (s_no ?_))
  try dsimp only [putF, rd, Frame.get]
  refine r_op (o_mov (s_no ?_))
  try dsimp only [putF, rd, Frame.get]
  refine r_op (o_mov (s_no ?_))
  try dsimp only [putF, rd, Frame.get]
  refine r_op (o_mov (s_no ?_))
  try dsimp only [putF, rd, Frame.get]
  refine r_nil (c_keep ?_)
  try dsimp only [List.map]
  try dsimp only [putF, rd, Frame.get]
  repeat (with_reducible first | refine c_seq ?_ | refine on_n ?_ | refine c_skip ?_ | refine c_block ?_ | refine on_r ?_ | refine c_ret ?_ | refine c_exit ?_ | refine on_e ?_ | refine ob_e ?_ | refine ob_n ?_ | refine ob_r ?_ | refine ob_x rfl ?_)
  refine c_ops ?_
  refine r_op (o_mov (s_no ?_))
  try dsimp only [putF, rd, Frame.get]
  refine r_op (o_len rfl (s_no ?_))
  try dsimp only [putF, rd, Frame.get]
  refine r_op (o_bin rfl (by first | trivial | (unfold inI64; omega)) (s_no ?_))
  try dsimp only [putF, rd, Frame.get]
  first | refine r_op (o_mov (s_dec (fun hg => ?_) (fun hg => ?_))) | refine r_op (o_mov (s_ndec (fun hg => ?_) (fun hg => ?_))) | refine r_op (o_mov (s_bool (fun hg => ?_) (fun hg => ?_)))
  all_goals try dsimp only [putF, rd, Frame.get]
  all_goals (first | refine r_st rfl ?_ | refine r_sf rfl ?_ | refine r_su rfl ?_ | refine r_ff rfl (o_mov (s_no ?_)))
  all_goals (try dsimp only [putF, rd, Frame.get])
  all_goals (first | refine r_st rfl ?_ | refine r_sf rfl ?_ | refine r_su rfl ?_ | refine r_ff rfl (o_len rfl (s_no ?_)))
  all_goals (try dsimp only [putF, rd, Frame.get])
  all_goals (first | refine r_st rfl ?_ | refine r_sf rfl ?_ | refine r_su rfl ?_ | refine r_ff rfl (o_bin rfl (by first | trivial | (unfold inI64; omega)) (s_no ?_)))
  all_goals (try dsimp only [putF, rd, Frame.get])
  all_goals (first | refine r_op (o_pickT rfl (s_no ?_)) | refine r_op (o_pickF rfl (s_no ?_)))
  all_goals (try dsimp only [putF, rd, Frame.get])
  all_goals refine r_nil (c_keep ?_)
  all_goals try dsimp only [List.map]
  all_goals try dsimp only [putF, rd, Frame.get]
  · repeat (with_reducible first | refine c_seq ?_ | refine on_n ?_ | refine c_skip ?_ | refine c_block ?_ | refine on_r ?_ | refine c_ret ?_ | refine c_exit ?_ | refine on_e ?_ | refine ob_e ?_ | refine ob_n ?_ | refine ob_r ?_ | refine ob_x rfl ?_)
    refine c_bool rfl (fun _ => ?_) (fun hb => by cases hb)
    repeat (with_reducible first | refine c_seq ?_ | refine on_n ?_ | refine c_skip ?_ | refine c_block ?_ | refine on_r ?_ | refine c_ret ?_ | refine c_exit ?_ | refine on_e ?_ | refine ob_e ?_ | refine ob_n ?_ | refine ob_r ?_ | refine ob_x rfl ?_)
    refine c_ops ?_
    refine r_op (o_mov (s_no ?_))
    try dsimp only [putF, rd, Frame.get]
    refine r_op (o_mov (s_no ?_))
    try dsimp only [putF, rd, Frame.get]
    refine r_op (o_mov (s_no ?_))
    try dsimp only [putF, rd, Frame.get]
    refine r_op (o_mov (s_no ?_))
    try dsimp only [putF, rd, Frame.get]
    refine r_nil (c_keep ?_)
    try dsimp only [List.map]
    try dsimp only [putF, rd, Frame.get]
    repeat (with_reducible first | refine c_seq ?_ | refine on_n ?_ | refine c_skip ?_ | refine c_block ?_ | refine on_r ?_ | refine c_ret ?_ | refine c_exit ?_ | refine on_e ?_ | refine ob_e ?_ | refine ob_n ?_ | refine ob_r ?_ | refine ob_x rfl ?_)
    dsimp only
    unfold hist_play_r
    refine w_tmp (w_tmp (w_tmp (w_tmp (w_nil ?_))))
    dsimp only [retV, Frame.get]
    exact ⟨HM.nil, .inl ⟨.inl (by omega), rfl⟩, hS.eq (by ac_rfl)⟩
  repeat (with_reducible first | refine c_seq ?_ | refine on_n ?_ | refine c_skip ?_ | refine c_block ?_ | refine on_r ?_ | refine c_ret ?_ | refine c_exit ?_ | refine on_e ?_ | refine ob_e ?_ | refine ob_n ?_ | refine ob_r ?_ | refine ob_x rfl ?_)
  refine c_dec rfl (fun hc => ?_) (fun hc => ?_)
  · repeat (with_reducible first | refine c_seq ?_ | refine on_n ?_ | refine c_skip ?_ | refine c_block ?_ | refine on_r ?_ | refine c_ret ?_ | refine c_exit ?_ | refine on_e ?_ | refine ob_e ?_ | refine ob_n ?_ | refine ob_r ?_ | refine ob_x rfl ?_)
    refine c_ops ?_
    refine r_op (o_mov (s_no ?_))
    try dsimp only [putF, rd, Frame.get]
    refine r_op (o_mov (s_no ?_))
    try dsimp only [putF, rd, Frame.get]
    refine r_op (o_mov (s_no ?_))
    try dsimp only [putF, rd, Frame.get]
    refine r_op (o_mov (s_no ?_))
    try dsimp only [putF, rd, Frame.get]
    refine r_nil (c_keep ?_)
    try dsimp only [List.map]
    try dsimp only [putF, rd, Frame.get]
    repeat (with_reducible first | refine c_seq ?_ | refine on_n ?_ | refine c_skip ?_ | refine c_block ?_ | refine on_r ?_ | refine c_ret ?_ | refine c_exit ?_ | refine on_e ?_ | refine ob_e ?_ | refine ob_n ?_ | refine ob_r ?_ | refine ob_x rfl ?_)
    dsimp only
    unfold hist_play_r
    refine w_tmp (w_tmp (w_tmp (w_tmp (w_nil ?_))))
    dsimp only [retV, Frame.get]
    exact ⟨HM.nil, .inl ⟨.inr (by omega), rfl⟩, hS.eq (by ac_rfl)⟩
  have hbig : ¬ histBig s l := by unfold histBig; omega
  repeat (with_reducible first | refine c_seq ?_ | refine on_n ?_ | refine c_skip ?_ | refine c_block ?_ | refine on_r ?_ | refine c_ret ?_ | refine c_exit ?_ | refine on_e ?_ | refine ob_e ?_ | refine ob_n ?_ | refine ob_r ?_ | refine ob_x rfl ?_)
  refine c_ops ?_
  refine r_op (o_mov (s_no ?_))
  try dsimp only [putF, rd, Frame.get]
  refine r_op (o_call ?_)
  dsimp only [List.map, putF, rd, Frame.get]
  refine HC.use (new_walk s) (hS.eq (m' := HM.nil + mf) (by ac_rfl)) ?_; rintro r m' S ⟨lh, vh, rfl, hm⟩ hS
  refine s_no ?_
  try dsimp only [putF, rd, Frame.get]
  refine r_op (o_mov (s_no ?_))
  try dsimp only [putF, rd, Frame.get]
  refine r_nil (c_keep ?_)
  try dsimp only [List.map]
  try dsimp only [putF, rd, Frame.get]
  repeat (with_reducible first | refine c_seq ?_ | refine on_n ?_ | refine c_skip ?_ | refine c_block ?_ | refine on_r ?_ | refine c_ret ?_ | refine c_exit ?_ | refine on_e ?_ | refine ob_e ?_ | refine ob_n ?_ | refine ob_r ?_ | refine ob_x rfl ?_)
  refine c_ops ?_
  refine r_op (o_newnil hS fun v9 l9 S hS => s_no ?_)
  try dsimp only [putF, rd, Frame.get]
  refine r_nil (c_keep ?_)
  try dsimp only [List.map]
  try dsimp only [putF, rd, Frame.get]
  repeat (with_reducible first | refine c_seq ?_ | refine on_n ?_ | refine c_skip ?_ | refine c_block ?_ | refine on_r ?_ | refine c_ret ?_ | refine c_exit ?_ | refine on_e ?_ | refine ob_e ?_ | refine ob_n ?_ | refine ob_r ?_ | refine ob_x rfl ?_)
  refine c_ops ?_
  refine r_op (o_newnil hS fun v10 l10 S hS => s_no ?_)
  try dsimp only [putF, rd, Frame.get]
  refine r_nil (c_keep ?_)
  try dsimp only [List.map]
  try dsimp only [putF, rd, Frame.get]
  repeat (with_reducible first | refine c_seq ?_ | refine on_n ?_ | refine c_skip ?_ | refine c_block ?_ | refine on_r ?_ | refine c_ret ?_ | refine c_exit ?_ | refine on_e ?_ | refine ob_e ?_ | refine ob_n ?_ | refine ob_r ?_ | refine ob_x rfl ?_)
  refine c_ops ?_
  refine r_op (o_mov (s_no ?_))
  try dsimp only [putF, rd, Frame.get]
  refine r_op (o_len rfl (s_no ?_))
  try dsimp only [putF, rd, Frame.get]
  refine r_op (o_mov (s_no ?_))
  try dsimp only [putF, rd, Frame.get]
  refine r_nil (c_keep ?_)
  try dsimp only [List.map]
  try dsimp only [putF, rd, Frame.get]
  repeat (with_reducible first | refine c_seq ?_ | refine on_n ?_ | refine c_skip ?_ | refine c_block ?_ | refine on_r ?_ | refine c_ret ?_ | refine c_exit ?_ | refine on_e ?_ | refine ob_e ?_ | refine ob_n ?_ | refine ob_r ?_ | refine ob_x rfl ?_)
  refine c_loop (fun n xs S => ∃ (j p1 v1 p2 v2 : Nat) (mh : HM), xs = [.sl p1 v1 0 j, .sl p2 v2 0 j, .int .i64 (j : Int)] ∧ j ≤ l.length ∧ n = l.length - j ∧ HistR (hEnd (hNew s) (l.take j)) lh vh mh ∧
    Has S (pt p1 (.row v1 1 ((hTexts (hNew s) (l.take j)).map .str)) + (pt p2 (.row v2 1 ((hCodes (hNew s) (l.take j)).map (.int .i64))) + (mh + mf)))) l.length ⟨0, l9, v9, l10, v10, m', rfl, Nat.zero_le _, rfl, hm, hS.eq (by show _ = pt l9 (.row v9 1 []) + (pt l10 (.row v10 1 []) + (m' + mf)); ac_rfl)⟩ ?_
  clear hS hm
  rintro n xs S hl' ⟨j, p1, v1, p2, v2, mh, rfl, hj, rfl, hm, hS⟩
  dsimp only [zipF, List.map, Frame.get]
  repeat (with_reducible first | refine c_seq ?_ | refine on_n ?_ | refine c_skip ?_ | refine c_block ?_ | refine on_r ?_ | refine c_ret ?_ | refine c_exit ?_ | refine on_e ?_ | refine ob_e ?_ | refine ob_n ?_ | refine ob_r ?_ | refine ob_x rfl ?_)
  refine c_ops ?_
  refine r_op (o_bin rfl (by first | trivial | (unfold inI64; omega)) (s_no ?_))
  try dsimp only [putF, rd, Frame.get]
  refine r_nil (c_keep ?_)
  try dsimp only [List.map]
  try dsimp only [putF, rd, Frame.get]
  repeat (with_reducible first | refine c_seq ?_ | refine on_n ?_ | refine c_skip ?_ | refine c_block ?_ | refine on_r ?_ | refine c_ret ?_ | refine c_exit ?_ | refine on_e ?_ | refine ob_e ?_ | refine ob_n ?_ | refine ob_r ?_ | refine ob_x rfl ?_)
  refine c_dec rfl (fun hlt => ?_) (fun hlt => ?_)
  · obtain ⟨d, hdj⟩ : ∃ d, l[j]? = some d := ⟨_, List.getElem?_eq_getElem (by omega)⟩
    have ht := encD_at hdj
    have e1 : l.take (j + 1) = l.take j ++ [d] := by rw [List.take_add_one, hdj]; rfl
    have ic := HInv.run (s := s) (by unfold histBig at hbig; omega) (l.take j)
    have lt : (l.take j).length = j := by rw [List.length_take]; omega
    rw [lt] at ic
    have hfit : editFits d.2 := hd d (List.mem_of_getElem? hdj)
    have h80 : l.length ≤ 80 := by unfold histBig at hbig; omega
    repeat (with_reducible first | refine c_seq ?_ | refine on_n ?_ | refine c_skip ?_ | refine c_block ?_ | refine on_r ?_ | refine c_ret ?_ | refine c_exit ?_ | refine on_e ?_ | refine ob_e ?_ | refine ob_n ?_ | refine ob_r ?_ | refine ob_x rfl ?_)
    refine c_ops ?_
    first | refine r_op (o_iaddr hS rfl rfl rfl (by omega) (s_no ?_)) | refine r_op (o_iaddrR rfl rfl (by omega) (by assumption) (s_no ?_)) | refine r_op (o_iaddrA rfl rfl (by omega) (s_no ?_)) | refine r_op (o_iaddrAR rfl rfl (by omega) (s_no ?_))
    try dsimp only [putF, rd, Frame.get]
    try simp only [Nat.zero_mul, Nat.mul_zero, Nat.mul_one, Nat.add_zero, Nat.zero_add, Nat.sub_zero, Nat.reduceAdd, Nat.reduceMul]
    first | refine r_op (o_load hS rfl rfl rfl rfl (s_no ?_)) | refine r_op (o_load hS rfl rfl (by assumption) rfl (s_no ?_)) | refine r_op (o_loadR rfl rfl rfl (s_no ?_)) | refine r_op (o_loadR rfl (by assumption) rfl (s_no ?_))
    try dsimp only [putF, rd, Frame.get]
    refine r_op (o_alloc hS fun v12 l12 S hS => s_no ?_)
    try dsimp only [putF, rd, Frame.get]
    first | refine r_op (o_store hS rfl rfl rfl rfl (by simp) fun S hS => s_no ?_) | refine r_op (o_store hS rfl rfl rfl rfl (by assumption) fun S hS => s_no ?_)
    try dsimp only [putF, rd, Frame.get]
    try dsimp only [putF, rd, Frame.get, setCells, over] at hS
    refine r_nil (c_keep ?_)
    try dsimp only [List.map]
    try dsimp only [putF, rd, Frame.get]
    repeat (with_reducible first | refine c_seq ?_ | refine on_n ?_ | refine c_skip ?_ | refine c_block ?_ | refine on_r ?_ | refine c_ret ?_ | refine c_exit ?_ | refine on_e ?_ | refine ob_e ?_ | refine ob_n ?_ | refine ob_r ?_ | refine ob_x rfl ?_)
    refine c_ops ?_
    refine r_op (o_mov (s_no ?_))
    try dsimp only [putF, rd, Frame.get]
    first | refine r_op (o_load hS rfl rfl rfl rfl (s_no ?_)) | refine r_op (o_load hS rfl rfl (by assumption) rfl (s_no ?_)) | refine r_op (o_loadR rfl rfl rfl (s_no ?_)) | refine r_op (o_loadR rfl (by assumption) rfl (s_no ?_))
    try dsimp only [putF, rd, Frame.get]
    refine r_op (o_call ?_)
    dsimp only [List.map, putF, rd, Frame.get]
    refine HC.use (deed_walk hCk hMd hUn hm ic (by omega) hfit) hS ?_; rintro r m' S ⟨y, a, R, mh', X, rfl, sy, -, rfl, hm'⟩ hS
    refine s_no ?_
    try dsimp only [putF, rd, Frame.get]
    refine r_op (o_mov (s_no ?_))
    try dsimp only [putF, rd, Frame.get]
    refine r_op (o_extract rfl rfl (s_no ?_))
    try dsimp only [putF, rd, Frame.get]
    refine r_op (o_extract rfl rfl (s_no ?_))
    try dsimp only [putF, rd, Frame.get]
    refine r_op (o_mov (s_no ?_))
    try dsimp only [putF, rd, Frame.get]
    refine r_op (o_mov (s_no ?_))
    try dsimp only [putF, rd, Frame.get]
    refine r_nil (c_keep ?_)
    try dsimp only [List.map]
    try dsimp only [putF, rd, Frame.get]
    repeat (with_reducible first | refine c_seq ?_ | refine on_n ?_ | refine c_skip ?_ | refine c_block ?_ | refine on_r ?_ | refine c_ret ?_ | refine c_exit ?_ | refine on_e ?_ | refine ob_e ?_ | refine ob_n ?_ | refine ob_r ?_ | refine ob_x rfl ?_)
    obtain ⟨xu, xr, cu, cr, mu, gu, mr, gr, rfl, q1, q2, q3, q4⟩ := hm'
    have hS := (hS.right.eq (m' := (pt p1 (.row v1 1 ((hTexts (hNew s) (l.take j)).map .str)) + (pt p2 (.row v2 1 ((hCodes (hNew s) (l.take j)).map (.int .i64))) + (pt lh (.row vh 0 [.str (hDeed (hEnd (hNew s) (l.take j)) d).1.text, xu, xr, .bool (hDeed (hEnd (hNew s) (l.take j)) d).1.opn]) + (mu + (gu + (mr + gr))) + mf))) + X) (by ac_rfl)).left
    refine c_ops ?_
    refine r_op (o_mov (s_no ?_))
    try dsimp only [putF, rd, Frame.get]
    refine r_op (o_mov (s_no ?_))
    try dsimp only [putF, rd, Frame.get]
    first | refine r_op (o_nilchk rfl (s_no ?_)) | refine r_op (o_nilchkR rfl (s_no ?_)) | refine r_op (o_nilchkF rfl (s_no ?_)) | refine r_op (o_nilchkM rfl (s_no ?_))
    try dsimp only [putF, rd, Frame.get]
    first | refine r_op (o_faddr rfl (s_no ?_)) | refine r_op (o_faddrR rfl (s_no ?_))
    try dsimp only [putF, rd, Frame.get]
    try simp only [Nat.zero_mul, Nat.mul_zero, Nat.mul_one, Nat.add_zero, Nat.zero_add, Nat.sub_zero, Nat.reduceAdd, Nat.reduceMul]
    first | refine r_op (o_load hS rfl rfl rfl rfl (s_no ?_)) | refine r_op (o_load hS rfl rfl (by assumption) rfl (s_no ?_)) | refine r_op (o_loadR rfl rfl rfl (s_no ?_)) | refine r_op (o_loadR rfl (by assumption) rfl (s_no ?_))
    try dsimp only [putF, rd, Frame.get]
    refine r_op (o_bsliceR rfl (s_no ?_))
    try dsimp only [putF, rd, Frame.get, setCells, over]
    try dsimp only [putF, rd, Frame.get, setCells, over] at hS
    refine r_op ?_
    refine o_appendX hS rfl (SrcOf.one rfl) rfl (by simp [hTexts_len, lt]) (by omega) fun v1' S hS => ?_
    refine s_no ?_
    try dsimp only [putF, rd, Frame.get]
    refine r_op (o_mov (s_no ?_))
    try dsimp only [putF, rd, Frame.get]
    refine r_op (o_mov (s_no ?_))
    try dsimp only [putF, rd, Frame.get]
    refine r_op (o_bsliceR rfl (s_no ?_))
    try dsimp only [putF, rd, Frame.get, setCells, over]
    try dsimp only [putF, rd, Frame.get, setCells, over] at hS
    refine r_op ?_
    refine o_appendX hS rfl (SrcOf.one rfl) rfl (by simp [hCodes_len, lt]) (by omega) fun v2' S hS => ?_
    refine s_no ?_
    try dsimp only [putF, rd, Frame.get]
    refine r_op (o_mov (s_no ?_))
    try dsimp only [putF, rd, Frame.get]
    refine r_op (o_mov (s_no ?_))
    try dsimp only [putF, rd, Frame.get]
    refine r_nil (c_keep ?_)
    try dsimp only [List.map]
    try dsimp only [putF, rd, Frame.get]
    repeat (with_reducible first | refine c_seq ?_ | refine on_n ?_ | refine c_skip ?_ | refine c_block ?_ | refine on_r ?_ | refine c_ret ?_ | refine c_exit ?_ | refine on_e ?_ | refine ob_e ?_ | refine ob_n ?_ | refine ob_r ?_ | refine ob_x rfl ?_)
    refine c_ops ?_
    refine r_op (o_bin rfl (by first | trivial | (unfold inI64; omega)) (s_no ?_))
    try dsimp only [putF, rd, Frame.get]
    refine r_op (o_mov (s_no ?_))
    try dsimp only [putF, rd, Frame.get]
    refine r_nil (c_keep ?_)
    try dsimp only [List.map]
    try dsimp only [putF, rd, Frame.get]
    repeat (with_reducible first | refine c_seq ?_ | refine on_n ?_ | refine c_skip ?_ | refine c_block ?_ | refine on_r ?_ | refine c_ret ?_ | refine c_exit ?_ | refine on_e ?_ | refine ob_e ?_ | refine ob_n ?_ | refine ob_r ?_ | refine ob_x rfl ?_)
    refine ⟨l.length - (j + 1), by omega, j + 1, p1, v1', p2, v2', _, rfl, by omega, rfl, ⟨xu, xr, cu, cr, mu, gu, mr, gr, rfl, ?_, ?_, ?_, ?_⟩, ?_⟩
    · rw [e1, hEnd_snoc]; exact q1
    · rw [e1, hEnd_snoc]; exact q2
    · rw [e1, hEnd_snoc]; exact q3
    · rw [e1, hEnd_snoc]; exact q4
    · rw [e1, hTexts_snoc, hCodes_snoc, List.map_append, List.map_append, hEnd_snoc]; exact hS
  · obtain rfl : j = l.length := by omega
    rw [List.take_of_length_le (Nat.le_refl _)] at hS hm
    repeat (with_reducible first | refine c_seq ?_ | refine on_n ?_ | refine c_skip ?_ | refine c_block ?_ | refine on_r ?_ | refine c_ret ?_ | refine c_exit ?_ | refine on_e ?_ | refine ob_e ?_ | refine ob_n ?_ | refine ob_r ?_ | refine ob_x rfl ?_)
    refine c_ops ?_
    refine r_op (o_mov (s_no ?_))
    try dsimp only [putF, rd, Frame.get]
    refine r_op (o_mov (s_no ?_))
    try dsimp only [putF, rd, Frame.get]
    refine r_op (o_mov (s_no ?_))
    try dsimp only [putF, rd, Frame.get]
    refine r_op (o_mov (s_no ?_))
    try dsimp only [putF, rd, Frame.get]
    refine r_op (o_mov (s_no ?_))
    try dsimp only [putF, rd, Frame.get]
    refine r_op (o_mov (s_no ?_))
    try dsimp only [putF, rd, Frame.get]
    refine r_op (o_mov (s_no ?_))
    try dsimp only [putF, rd, Frame.get]
    refine r_nil (c_keep ?_)
    try dsimp only [List.map]
    try dsimp only [putF, rd, Frame.get]
    repeat (with_reducible first | refine c_seq ?_ | refine on_n ?_ | refine c_skip ?_ | refine c_block ?_ | refine on_r ?_ | refine c_ret ?_ | refine c_exit ?_ | refine on_e ?_ | refine ob_e ?_ | refine ob_n ?_ | refine ob_r ?_ | refine ob_x rfl ?_)
    dsimp only
    unfold hist_play_r
    refine w_tmp (w_tmp (w_tmp (w_tmp (w_nil ?_))))
    dsimp only [retV, Frame.get]
    exact ⟨_, .inr ⟨hbig, lh, vh, p1, v1, p2, v2, mh, rfl, hm, rfl⟩, hS.eq (by ac_rfl)⟩
theorem play_small {s : Bytes} {l : List Deed} (h : ¬ histBig s l) : histPlay s l = (hTexts (hNew s) l, hCodes (hNew s) l, 0) ∧ histCounts s l = (((hEnd (hNew s) l).undo.length : Int), ((hEnd (hNew s) l).redo.length : Int), (0 : Int)) := by
  constructor
  · unfold histPlay iteP; rw [if_neg h]
  · unfold histCounts iteP; rw [if_neg h]
theorem play_big {s : Bytes} {l : List Deed} (h : histBig s l) : histPlay s l = ([], [], 1) ∧ histCounts s l = (0, 0, 1) := by
  constructor
  · unfold histPlay iteP; rw [if_pos h]
  · unfold histCounts iteP; rw [if_pos h]

theorem Play_walk (hCk : Con Try.prog f_edit_Check edit_Check_ct) (hMd : Con Try.prog f_edit_Made edit_Made_ct) (hUn : Con Try.prog f_edit_Undo edit_Undo_ct) (s : Bytes) (l : List Deed) (hp : histPre s l) :
    HC Try.prog f_hist_Play [.str s, .ros l.length (l.flatMap encD)] HM.nil fun r m' => (histBig s l ∧ r = .tup [.nils, .nils, .int .i64 1]) ∨ (¬ histBig s l ∧ ∃ p1 v1 p2 v2 X, r = .tup [.sl p1 v1 0 l.length, .sl p2 v2 0 l.length, .int .i64 0] ∧
      m' = pt p1 (.row v1 1 ((hTexts (hNew s) l).map .str)) + (pt p2 (.row v2 1 ((hCodes (hNew s) l).map (.int .i64))) + X)) := by
  intro S mf hS
  refine hist_Play_ok.out rfl ?_ (by simp [hist_Play_fi])
  unfold vcFun hist_Play_fi
  dsimp only
  unfold hist_Play_c
  dsimp only [argF]
  by_cases hb : histBig s l
  · have hc := (play_walk hCk hMd hUn s l hp).mono fun r m' h => h.resolve_right fun q => q.1 hb
    repeat (with_reducible first | refine c_seq ?_ | refine on_n ?_ | refine c_skip ?_ | refine c_block ?_ | refine on_r ?_ | refine c_ret ?_ | refine c_exit ?_ | refine on_e ?_ | refine ob_e ?_ | refine ob_n ?_ | refine ob_r ?_ | refine ob_x rfl ?_)
    refine c_ops ?_
    refine r_op (o_mov (s_no ?_))
    try dsimp only [putF, rd, Frame.get]
    refine r_op (o_mov (s_no ?_))
    try dsimp only [putF, rd, Frame.get]
    refine r_op (o_mov (s_no ?_))
    try dsimp only [putF, rd, Frame.get]
    refine r_nil (c_keep ?_)
    try dsimp only [List.map]
    try dsimp only [putF, rd, Frame.get]
    repeat (with_reducible first | refine c_seq ?_ | refine on_n ?_ | refine c_skip ?_ | refine c_block ?_ | refine on_r ?_ | refine c_ret ?_ | refine c_exit ?_ | refine on_e ?_ | refine ob_e ?_ | refine ob_n ?_ | refine ob_r ?_ | refine ob_x rfl ?_)
    refine c_ops ?_
    refine r_op (o_mov (s_no ?_))
    try dsimp only [putF, rd, Frame.get]
    refine r_op (o_mov (s_no ?_))
    try dsimp only [putF, rd, Frame.get]
    refine r_op (o_call ?_)
    dsimp only [List.map, putF, rd, Frame.get]
    refine HC.use hc hS ?_; rintro r m' S ⟨-, rfl⟩ hS
    refine s_no ?_
    try dsimp only [putF, rd, Frame.get]
    refine r_op (o_mov (s_no ?_))
    try dsimp only [putF, rd, Frame.get]
    refine r_op (o_extract rfl rfl (s_no ?_))
    try dsimp only [putF, rd, Frame.get]
    refine r_op (o_extract rfl rfl (s_no ?_))
    try dsimp only [putF, rd, Frame.get]
    refine r_op (o_extract rfl rfl (s_no ?_))
    try dsimp only [putF, rd, Frame.get]
    refine r_op (o_extract rfl rfl (s_no ?_))
    try dsimp only [putF, rd, Frame.get]
    refine r_op (o_mov (s_no ?_))
    try dsimp only [putF, rd, Frame.get]
    refine r_op (o_mov (s_no ?_))
    try dsimp only [putF, rd, Frame.get]
    refine r_op (o_mov (s_no ?_))
    try dsimp only [putF, rd, Frame.get]
    refine r_nil (c_keep ?_)
    try dsimp only [List.map]
    try dsimp only [putF, rd, Frame.get]
    repeat (with_reducible first | refine c_seq ?_ | refine on_n ?_ | refine c_skip ?_ | refine c_block ?_ | refine on_r ?_ | refine c_ret ?_ | refine c_exit ?_ | refine on_e ?_ | refine ob_e ?_ | refine ob_n ?_ | refine ob_r ?_ | refine ob_x rfl ?_)
    refine c_ops ?_
    refine r_op (o_mov (s_no ?_))
    try dsimp only [putF, rd, Frame.get]
    refine r_op (o_mov (s_no ?_))
    try dsimp only [putF, rd, Frame.get]
    refine r_op (o_mov (s_no ?_))
    try dsimp only [putF, rd, Frame.get]
    refine r_op (o_mov (s_no ?_))
    try dsimp only [putF, rd, Frame.get]
    refine r_op (o_mov (s_no ?_))
    try dsimp only [putF, rd, Frame.get]
    refine r_op (o_mov (s_no ?_))
    try dsimp only [putF, rd, Frame.get]
    refine r_nil (c_keep ?_)
    try dsimp only [List.map]
    try dsimp only [putF, rd, Frame.get]
    repeat (with_reducible first | refine c_seq ?_ | refine on_n ?_ | refine c_skip ?_ | refine c_block ?_ | refine on_r ?_ | refine c_ret ?_ | refine c_exit ?_ | refine on_e ?_ | refine ob_e ?_ | refine ob_n ?_ | refine ob_r ?_ | refine ob_x rfl ?_)
    dsimp only
    unfold hist_Play_r
    refine w_tmp (w_tmp (w_tmp (w_nil ?_)))
    dsimp only [retV, Frame.get]
    exact ⟨_, .inl ⟨hb, rfl⟩, hS⟩
  · have hc := (play_walk hCk hMd hUn s l hp).mono fun r m' h => h.resolve_left fun q => hb q.1
    repeat (with_reducible first | refine c_seq ?_ | refine on_n ?_ | refine c_skip ?_ | refine c_block ?_ | refine on_r ?_ | refine c_ret ?_ | refine c_exit ?_ | refine on_e ?_ | refine ob_e ?_ | refine ob_n ?_ | refine ob_r ?_ | refine ob_x rfl ?_)
    refine c_ops ?_
    refine r_op (o_mov (s_no ?_))
    try dsimp only [putF, rd, Frame.get]
    refine r_op (o_mov (s_no ?_))
    try dsimp only [putF, rd, Frame.get]
    refine r_op (o_mov (s_no ?_))
    try dsimp only [putF, rd, Frame.get]
    refine r_nil (c_keep ?_)
    try dsimp only [List.map]
    try dsimp only [putF, rd, Frame.get]
    repeat (with_reducible first | refine c_seq ?_ | refine on_n ?_ | refine c_skip ?_ | refine c_block ?_ | refine on_r ?_ | refine c_ret ?_ | refine c_exit ?_ | refine on_e ?_ | refine ob_e ?_ | refine ob_n ?_ | refine ob_r ?_ | refine ob_x rfl ?_)
    refine c_ops ?_
    refine r_op (o_mov (s_no ?_))
    try dsimp only [putF, rd, Frame.get]
    refine r_op (o_mov (s_no ?_))
    try dsimp only [putF, rd, Frame.get]
    refine r_op (o_call ?_)
    dsimp only [List.map, putF, rd, Frame.get]
    refine HC.use hc hS ?_; rintro r m' S ⟨-, lh, vh, p1, v1, p2, v2, mh, rfl, hm, rfl⟩ hS
    refine s_no ?_
    try dsimp only [putF, rd, Frame.get]
    refine r_op (o_mov (s_no ?_))
    try dsimp only [putF, rd, Frame.get]
    refine r_op (o_extract rfl rfl (s_no ?_))
    try dsimp only [putF, rd, Frame.get]
    refine r_op (o_extract rfl rfl (s_no ?_))
    try dsimp only [putF, rd, Frame.get]
    refine r_op (o_extract rfl rfl (s_no ?_))
    try dsimp only [putF, rd, Frame.get]
    refine r_op (o_extract rfl rfl (s_no ?_))
    try dsimp only [putF, rd, Frame.get]
    refine r_op (o_mov (s_no ?_))
    try dsimp only [putF, rd, Frame.get]
    refine r_op (o_mov (s_no ?_))
    try dsimp only [putF, rd, Frame.get]
    refine r_op (o_mov (s_no ?_))
    try dsimp only [putF, rd, Frame.get]
    refine r_nil (c_keep ?_)
    try dsimp only [List.map]
    try dsimp only [putF, rd, Frame.get]
    repeat (with_reducible first | refine c_seq ?_ | refine on_n ?_ | refine c_skip ?_ | refine c_block ?_ | refine on_r ?_ | refine c_ret ?_ | refine c_exit ?_ | refine on_e ?_ | refine ob_e ?_ | refine ob_n ?_ | refine ob_r ?_ | refine ob_x rfl ?_)
    refine c_ops ?_
    refine r_op (o_mov (s_no ?_))
    try dsimp only [putF, rd, Frame.get]
    refine r_op (o_mov (s_no ?_))
    try dsimp only [putF, rd, Frame.get]
    refine r_op (o_mov (s_no ?_))
    try dsimp only [putF, rd, Frame.get]
    refine r_op (o_mov (s_no ?_))
    try dsimp only [putF, rd, Frame.get]
    refine r_op (o_mov (s_no ?_))
    try dsimp only [putF, rd, Frame.get]
    refine r_op (o_mov (s_no ?_))
    try dsimp only [putF, rd, Frame.get]
    refine r_nil (c_keep ?_)
    try dsimp only [List.map]
    try dsimp only [putF, rd, Frame.get]
    repeat (with_reducible first | refine c_seq ?_ | refine on_n ?_ | refine c_skip ?_ | refine c_block ?_ | refine on_r ?_ | refine c_ret ?_ | refine c_exit ?_ | refine on_e ?_ | refine ob_e ?_ | refine ob_n ?_ | refine ob_r ?_ | refine ob_x rfl ?_)
    dsimp only
    unfold hist_Play_r
    refine w_tmp (w_tmp (w_tmp (w_nil ?_)))
    dsimp only [retV, Frame.get]
    exact ⟨_, .inr ⟨hb, p1, v1, p2, v2, mh, rfl, rfl⟩, hS⟩
theorem map_str : ∀ l : List Bytes, l.map AVal.str = l.flatMap (encT .str)
  | [] => rfl
  | a :: l => by show AVal.str a :: l.map AVal.str = AVal.str a :: l.flatMap (encT .str); rw [map_str l]
theorem map_int : ∀ l : List Int, l.map (AVal.int .i64) = l.flatMap (encT tI)
  | [] => rfl
  | a :: l => by show AVal.int .i64 a :: l.map (AVal.int .i64) = AVal.int .i64 a :: l.flatMap (encT tI); rw [map_int l]
theorem hist_play_con (hCk : Con Try.prog f_edit_Check edit_Check_ct) (hMd : Con Try.prog f_edit_Made edit_Made_ct) (hUn : Con Try.prog f_edit_Undo edit_Undo_ct) : Con Try.prog f_hist_Play hist_Play_ct := by
  refine ⟨hist_Play_ok.able rfl, fun (x : Bytes × List Deed) hp => ?_⟩
  obtain ⟨s, l⟩ := x
  refine HC.plainly (Play_walk hCk hMd hUn s l hp) ?_
  rintro r m' S' (⟨hb, rfl⟩ | ⟨hb, p1, v1, p2, v2, X, rfl, rfl⟩) hS
  · refine ⟨_, id, [], .refl _, has_none, [.nils, .nils, .int .i64 1], ?_, rfl⟩
    show resA [.own .str, .own tI, .val tI] (histPlay s l) 0 _ _
    rw [(play_big hb).1]
    exact .inr ⟨rfl, _, rfl, .inr ⟨rfl, _, rfl, _, rfl, rfl, rfl⟩⟩
  · have hl1 := hTexts_len l (hNew s)
    have hl2 := hCodes_len l (hNew s)
    rw [map_str, map_int] at hS
    refine ⟨.tup [.sl 0 v1 0 l.length, .sl 1 v2 0 l.length, .int .i64 0], _, _, .tup (.cons .sl (.cons .sl (.refl _))), has_two hS, [.sl 0 v1 0 l.length, .sl 1 v2 0 l.length, .int .i64 0], ?_, rfl⟩
    show resA [.own .str, .own tI, .val tI] (histPlay s l) 0 _ _
    rw [(play_small hb).1]
    refine .inl ⟨v1, [.sl 1 v2 0 l.length, .int .i64 0], _, ?_, rfl, .inl ⟨v2, [.int .i64 0], [], ?_, rfl, [], rfl, rfl, rfl⟩⟩
    · show _ = AVal.sl 0 v1 0 (hTexts (hNew s) l).length :: _
      rw [hl1]
    · show _ = AVal.sl 1 v2 0 (hCodes (hNew s) l).length :: _
      rw [hl2]

theorem counts_walk {h : HistS} {lh vh : Nat} {m : HM} (hm : HistR h lh vh m) : HC Try.prog f___hist_History__Counts [.ptr lh vh 0] m fun r m' => r = .tup [.int .i64 h.undo.length, .int .i64 h.redo.length] := by
  intro S mf hS
  obtain ⟨xu, xr, cu, cr, mu, gu, mr, gr, rfl, su, qu, sr, qr⟩ := hm
  refine __hist_History__Counts_ok.out rfl ?_ (by simp [__hist_History__Counts_fi])
  unfold vcFun __hist_History__Counts_fi
  dsimp only
  unfold __hist_History__Counts_c
  dsimp only [argF]
  repeat (with_reducible first | refine c_seq ?_ | refine on_n ?_ | refine c_skip ?_ | refine c_block ?_ | refine on_r ?_ | refine c_ret ?_ | refine c_exit ?_ | refine on_e ?_ | refine ob_e ?_ | refine ob_n ?_ | refine ob_r ?_ | refine ob_x rfl ?_)
  refine c_ops ?_
  refine r_op (o_mov (s_no ?_))
  try dsimp only [putF, rd, Frame.get]
  refine r_op (o_mov (s_no ?_))
  try dsimp only [putF, rd, Frame.get]
  refine r_nil (c_keep ?_)
  try dsimp only [List.map]
  try dsimp only [putF, rd, Frame.get]
  repeat (with_reducible first | refine c_seq ?_ | refine on_n ?_ | refine c_skip ?_ | refine c_block ?_ | refine on_r ?_ | refine c_ret ?_ | refine c_exit ?_ | refine on_e ?_ | refine ob_e ?_ | refine ob_n ?_ | refine ob_r ?_ | refine ob_x rfl ?_)
  refine c_opsD0 hS fun S hS => ?_
  refine d_zero ?_
  refine r_op (o_mov (s_no ?_))
  try dsimp only [putF, rd, Frame.get]
  first | refine r_op (o_nilchk rfl (s_no ?_)) | refine r_op (o_nilchkR rfl (s_no ?_)) | refine r_op (o_nilchkF rfl (s_no ?_)) | refine r_op (o_nilchkM rfl (s_no ?_))
  try dsimp only [putF, rd, Frame.get]
  first | refine r_op (o_faddr rfl (s_no ?_)) | refine r_op (o_faddrR rfl (s_no ?_))
  try dsimp only [putF, rd, Frame.get]
  try simp only [Nat.zero_mul, Nat.mul_zero, Nat.mul_one, Nat.add_zero, Nat.zero_add, Nat.sub_zero, Nat.reduceAdd, Nat.reduceMul]
  first | refine r_op (o_load hS rfl rfl rfl rfl (s_no ?_)) | refine r_op (o_load hS rfl rfl (by assumption) rfl (s_no ?_)) | refine r_op (o_loadR rfl rfl rfl (s_no ?_)) | refine r_op (o_loadR rfl (by assumption) rfl (s_no ?_))
  try dsimp only [putF, rd, Frame.get]
  refine r_op ?_
  refine o_len su.len ?_
  refine s_no ?_
  try dsimp only [putF, rd, Frame.get]
  refine r_op (o_mov (s_no ?_))
  try dsimp only [putF, rd, Frame.get]
  first | refine r_op (o_nilchk rfl (s_no ?_)) | refine r_op (o_nilchkR rfl (s_no ?_)) | refine r_op (o_nilchkF rfl (s_no ?_)) | refine r_op (o_nilchkM rfl (s_no ?_))
  try dsimp only [putF, rd, Frame.get]
  first | refine r_op (o_faddr rfl (s_no ?_)) | refine r_op (o_faddrR rfl (s_no ?_))
  try dsimp only [putF, rd, Frame.get]
  try simp only [Nat.zero_mul, Nat.mul_zero, Nat.mul_one, Nat.add_zero, Nat.zero_add, Nat.sub_zero, Nat.reduceAdd, Nat.reduceMul]
  first | refine r_op (o_load hS rfl rfl rfl rfl (s_no ?_)) | refine r_op (o_load hS rfl rfl (by assumption) rfl (s_no ?_)) | refine r_op (o_loadR rfl rfl rfl (s_no ?_)) | refine r_op (o_loadR rfl (by assumption) rfl (s_no ?_))
  try dsimp only [putF, rd, Frame.get]
  refine r_op ?_
  refine o_len sr.len ?_
  refine s_no ?_
  try dsimp only [putF, rd, Frame.get]
  refine r_op (o_mov (s_no ?_))
  try dsimp only [putF, rd, Frame.get]
  refine r_op (o_mov (s_no ?_))
  try dsimp only [putF, rd, Frame.get]
  refine r_nil (c_keep ?_)
  try dsimp only [List.map]
  try dsimp only [putF, rd, Frame.get]
  repeat (with_reducible first | refine c_seq ?_ | refine on_n ?_ | refine c_skip ?_ | refine c_block ?_ | refine on_r ?_ | refine c_ret ?_ | refine c_exit ?_ | refine on_e ?_ | refine ob_e ?_ | refine ob_n ?_ | refine ob_r ?_ | refine ob_x rfl ?_)
  dsimp only
  unfold __hist_History__Counts_r
  refine w_tmp (w_tmp (w_nil ?_))
  dsimp only [retV, Frame.get]
  exact ⟨_, rfl, hS⟩

theorem Counts_walk (hCk : Con Try.prog f_edit_Check edit_Check_ct) (hMd : Con Try.prog f_edit_Made edit_Made_ct) (hUn : Con Try.prog f_edit_Undo edit_Undo_ct) (s : Bytes) (l : List Deed) (hp : histPre s l) :
    HC Try.prog f_hist_Counts [.str s, .ros l.length (l.flatMap encD)] HM.nil fun r m' => r = .tup [.int .i64 (histCounts s l).1, .int .i64 (histCounts s l).2.1, .int .i64 (histCounts s l).2.2] := by
  intro S mf hS
  refine hist_Counts_ok.out rfl ?_ (by simp [hist_Counts_fi])
  unfold vcFun hist_Counts_fi
  dsimp only
  unfold hist_Counts_c
  dsimp only [argF]
  by_cases hb : histBig s l
  · have hc := (play_walk hCk hMd hUn s l hp).mono fun r m' h => h.resolve_right fun q => q.1 hb
    repeat (with_reducible first | refine c_seq ?_ | refine on_n ?_ | refine c_skip ?_ | refine c_block ?_ | refine on_r ?_ | refine c_ret ?_ | refine c_exit ?_ | refine on_e ?_ | refine ob_e ?_ | refine ob_n ?_ | refine ob_r ?_ | refine ob_x rfl ?_)
    refine c_ops ?_
    refine r_op (o_mov (s_no ?_))
    try dsimp only [putF, rd, Frame.get]
    refine r_op (o_mov (s_no ?_))
    try dsimp only [putF, rd, Frame.get]
    refine r_op (o_mov (s_no ?_))
    try dsimp only [putF, rd, Frame.get]
    refine r_nil (c_keep ?_)
    try dsimp only [List.map]
    try dsimp only [putF, rd, Frame.get]
    repeat (with_reducible first | refine c_seq ?_ | refine on_n ?_ | refine c_skip ?_ | refine c_block ?_ | refine on_r ?_ | refine c_ret ?_ | refine c_exit ?_ | refine on_e ?_ | refine ob_e ?_ | refine ob_n ?_ | refine ob_r ?_ | refine ob_x rfl ?_)
    refine c_ops ?_
    refine r_op (o_mov (s_no ?_))
    try dsimp only [putF, rd, Frame.get]
    refine r_op (o_mov (s_no ?_))
    try dsimp only [putF, rd, Frame.get]
    refine r_op (o_call ?_)
    dsimp only [List.map, putF, rd, Frame.get]
    refine HC.use hc hS ?_; rintro r m' S ⟨-, rfl⟩ hS
    refine s_no ?_
    try dsimp only [putF, rd, Frame.get]
    refine r_op (o_mov (s_no ?_))
    try dsimp only [putF, rd, Frame.get]
    refine r_op (o_extract rfl rfl (s_no ?_))
    try dsimp only [putF, rd, Frame.get]
    refine r_op (o_extract rfl rfl (s_no ?_))
    try dsimp only [putF, rd, Frame.get]
    refine r_op (o_extract rfl rfl (s_no ?_))
    try dsimp only [putF, rd, Frame.get]
    refine r_op (o_extract rfl rfl (s_no ?_))
    try dsimp only [putF, rd, Frame.get]
    refine r_op (o_mov (s_no ?_))
    try dsimp only [putF, rd, Frame.get]
    refine r_op (o_mov (s_no ?_))
    try dsimp only [putF, rd, Frame.get]
    refine r_op (o_mov (s_no ?_))
    try dsimp only [putF, rd, Frame.get]
    refine r_op (o_mov (s_no ?_))
    try dsimp only [putF, rd, Frame.get]
    refine r_nil (c_keep ?_)
    try dsimp only [List.map]
    try dsimp only [putF, rd, Frame.get]
    repeat (with_reducible first | refine c_seq ?_ | refine on_n ?_ | refine c_skip ?_ | refine c_block ?_ | refine on_r ?_ | refine c_ret ?_ | refine c_exit ?_ | refine on_e ?_ | refine ob_e ?_ | refine ob_n ?_ | refine ob_r ?_ | refine ob_x rfl ?_)
    refine c_ops ?_
    refine r_op (o_mov (s_no ?_))
    try dsimp only [putF, rd, Frame.get]
    refine r_op (o_bin rfl (by first | trivial | (unfold inI64; omega)) (s_no ?_))
    try dsimp only [putF, rd, Frame.get]
    refine r_nil (c_keep ?_)
    try dsimp only [List.map]
    try dsimp only [putF, rd, Frame.get]
    repeat (with_reducible first | refine c_seq ?_ | refine on_n ?_ | refine c_skip ?_ | refine c_block ?_ | refine on_r ?_ | refine c_ret ?_ | refine c_exit ?_ | refine on_e ?_ | refine ob_e ?_ | refine ob_n ?_ | refine ob_r ?_ | refine ob_x rfl ?_)
    refine c_ndec rfl (fun _ => ?_) (fun q => absurd q (by decide))
    repeat (with_reducible first | refine c_seq ?_ | refine on_n ?_ | refine c_skip ?_ | refine c_block ?_ | refine on_r ?_ | refine c_ret ?_ | refine c_exit ?_ | refine on_e ?_ | refine ob_e ?_ | refine ob_n ?_ | refine ob_r ?_ | refine ob_x rfl ?_)
    refine c_ops ?_
    refine r_op (o_mov (s_no ?_))
    try dsimp only [putF, rd, Frame.get]
    refine r_op (o_mov (s_no ?_))
    try dsimp only [putF, rd, Frame.get]
    refine r_op (o_mov (s_no ?_))
    try dsimp only [putF, rd, Frame.get]
    refine r_op (o_mov (s_no ?_))
    try dsimp only [putF, rd, Frame.get]
    refine r_nil (c_keep ?_)
    try dsimp only [List.map]
    try dsimp only [putF, rd, Frame.get]
    repeat (with_reducible first | refine c_seq ?_ | refine on_n ?_ | refine c_skip ?_ | refine c_block ?_ | refine on_r ?_ | refine c_ret ?_ | refine c_exit ?_ | refine on_e ?_ | refine ob_e ?_ | refine ob_n ?_ | refine ob_r ?_ | refine ob_x rfl ?_)
    dsimp only
    unfold hist_Counts_r
    refine w_tmp (w_tmp (w_tmp (w_nil ?_)))
    dsimp only [retV, Frame.get]
    rw [(play_big hb).2]
    exact ⟨_, rfl, hS⟩
  · have hc := (play_walk hCk hMd hUn s l hp).mono fun r m' h => h.resolve_left fun q => hb q.1
    repeat (with_reducible first | refine c_seq ?_ | refine on_n ?_ | refine c_skip ?_ | refine c_block ?_ | refine on_r ?_ | refine c_ret ?_ | refine c_exit ?_ | refine on_e ?_ | refine ob_e ?_ | refine ob_n ?_ | refine ob_r ?_ | refine ob_x rfl ?_)
    refine c_ops ?_
    refine r_op (o_mov (s_no ?_))
    try dsimp only [putF, rd, Frame.get]
    refine r_op (o_mov (s_no ?_))
    try dsimp only [putF, rd, Frame.get]
    refine r_op (o_mov (s_no ?_))
    try dsimp only [putF, rd, Frame.get]
    refine r_nil (c_keep ?_)
    try dsimp only [List.map]
    try dsimp only [putF, rd, Frame.get]
    repeat (with_reducible first | refine c_seq ?_ | refine on_n ?_ | refine c_skip ?_ | refine c_block ?_ | refine on_r ?_ | refine c_ret ?_ | refine c_exit ?_ | refine on_e ?_ | refine ob_e ?_ | refine ob_n ?_ | refine ob_r ?_ | refine ob_x rfl ?_)
    refine c_ops ?_
    refine r_op (o_mov (s_no ?_))
    try dsimp only [putF, rd, Frame.get]
    refine r_op (o_mov (s_no ?_))
    try dsimp only [putF, rd, Frame.get]
    refine r_op (o_call ?_)
    dsimp only [List.map, putF, rd, Frame.get]
    refine HC.use hc hS ?_; rintro r m' S ⟨-, lh, vh, p1, v1, p2, v2, mh, rfl, hm, rfl⟩ hS
    refine s_no ?_
    try dsimp only [putF, rd, Frame.get]
    refine r_op (o_mov (s_no ?_))
    try dsimp only [putF, rd, Frame.get]
    refine r_op (o_extract rfl rfl (s_no ?_))
    try dsimp only [putF, rd, Frame.get]
    refine r_op (o_extract rfl rfl (s_no ?_))
    try dsimp only [putF, rd, Frame.get]
    refine r_op (o_extract rfl rfl (s_no ?_))
    try dsimp only [putF, rd, Frame.get]
    refine r_op (o_extract rfl rfl (s_no ?_))
    try dsimp only [putF, rd, Frame.get]
    refine r_op (o_mov (s_no ?_))
    try dsimp only [putF, rd, Frame.get]
    refine r_op (o_mov (s_no ?_))
    try dsimp only [putF, rd, Frame.get]
    refine r_op (o_mov (s_no ?_))
    try dsimp only [putF, rd, Frame.get]
    refine r_op (o_mov (s_no ?_))
    try dsimp only [putF, rd, Frame.get]
    refine r_nil (c_keep ?_)
    try dsimp only [List.map]
    try dsimp only [putF, rd, Frame.get]
    repeat (with_reducible first | refine c_seq ?_ | refine on_n ?_ | refine c_skip ?_ | refine c_block ?_ | refine on_r ?_ | refine c_ret ?_ | refine c_exit ?_ | refine on_e ?_ | refine ob_e ?_ | refine ob_n ?_ | refine ob_r ?_ | refine ob_x rfl ?_)
    refine c_ops ?_
    refine r_op (o_mov (s_no ?_))
    try dsimp only [putF, rd, Frame.get]
    refine r_op (o_bin rfl (by first | trivial | (unfold inI64; omega)) (s_no ?_))
    try dsimp only [putF, rd, Frame.get]
    refine r_nil (c_keep ?_)
    try dsimp only [List.map]
    try dsimp only [putF, rd, Frame.get]
    repeat (with_reducible first | refine c_seq ?_ | refine on_n ?_ | refine c_skip ?_ | refine c_block ?_ | refine on_r ?_ | refine c_ret ?_ | refine c_exit ?_ | refine on_e ?_ | refine ob_e ?_ | refine ob_n ?_ | refine ob_r ?_ | refine ob_x rfl ?_)
    refine c_ndec rfl (fun q => absurd rfl q) (fun _ => ?_)
    repeat (with_reducible first | refine c_seq ?_ | refine on_n ?_ | refine c_skip ?_ | refine c_block ?_ | refine on_r ?_ | refine c_ret ?_ | refine c_exit ?_ | refine on_e ?_ | refine ob_e ?_ | refine ob_n ?_ | refine ob_r ?_ | refine ob_x rfl ?_)
    refine c_ops ?_
    refine r_op (o_mov (s_no ?_))
    try dsimp only [putF, rd, Frame.get]
    refine r_op (o_call ?_)
    dsimp only [List.map, putF, rd, Frame.get]
    refine HC.use (counts_walk hm) hS ?_; rintro r m' S rfl hS
    refine s_no ?_
    try dsimp only [putF, rd, Frame.get]
    refine r_op (o_mov (s_no ?_))
    try dsimp only [putF, rd, Frame.get]
    refine r_op (o_extract rfl rfl (s_no ?_))
    try dsimp only [putF, rd, Frame.get]
    refine r_op (o_extract rfl rfl (s_no ?_))
    try dsimp only [putF, rd, Frame.get]
    refine r_op (o_mov (s_no ?_))
    try dsimp only [putF, rd, Frame.get]
    refine r_op (o_mov (s_no ?_))
    try dsimp only [putF, rd, Frame.get]
    refine r_nil (c_keep ?_)
    try dsimp only [List.map]
    try dsimp only [putF, rd, Frame.get]
    repeat (with_reducible first | refine c_seq ?_ | refine on_n ?_ | refine c_skip ?_ | refine c_block ?_ | refine on_r ?_ | refine c_ret ?_ | refine c_exit ?_ | refine on_e ?_ | refine ob_e ?_ | refine ob_n ?_ | refine ob_r ?_ | refine ob_x rfl ?_)
    refine c_ops ?_
    refine r_op (o_mov (s_no ?_))
    try dsimp only [putF, rd, Frame.get]
    refine r_op (o_mov (s_no ?_))
    try dsimp only [putF, rd, Frame.get]
    refine r_op (o_mov (s_no ?_))
    try dsimp only [putF, rd, Frame.get]
    refine r_op (o_mov (s_no ?_))
    try dsimp only [putF, rd, Frame.get]
    refine r_op (o_mov (s_no ?_))
    try dsimp only [putF, rd, Frame.get]
    refine r_nil (c_keep ?_)
    try dsimp only [List.map]
    try dsimp only [putF, rd, Frame.get]
    repeat (with_reducible first | refine c_seq ?_ | refine on_n ?_ | refine c_skip ?_ | refine c_block ?_ | refine on_r ?_ | refine c_ret ?_ | refine c_exit ?_ | refine on_e ?_ | refine ob_e ?_ | refine ob_n ?_ | refine ob_r ?_ | refine ob_x rfl ?_)
    dsimp only
    unfold hist_Counts_r
    refine w_tmp (w_tmp (w_tmp (w_nil ?_)))
    dsimp only [retV, Frame.get]
    rw [(play_small hb).2]
    exact ⟨_, rfl, hS⟩
theorem hist_counts_con (hCk : Con Try.prog f_edit_Check edit_Check_ct) (hMd : Con Try.prog f_edit_Made edit_Made_ct) (hUn : Con Try.prog f_edit_Undo edit_Undo_ct) : Con Try.prog f_hist_Counts hist_Counts_ct := by
  refine ⟨hist_Counts_ok.able rfl, fun (x : Bytes × List Deed) hp => ?_⟩
  obtain ⟨s, l⟩ := x
  refine HC.plainly (Counts_walk hCk hMd hUn s l hp) ?_
  rintro r m' S' rfl hS
  exact ⟨_, id, [], .refl _, has_none, _, ⟨_, rfl, _, rfl, _, rfl, rfl, rfl⟩, rfl⟩
end Go.Proofs.Yteifemonokemgaa.H
