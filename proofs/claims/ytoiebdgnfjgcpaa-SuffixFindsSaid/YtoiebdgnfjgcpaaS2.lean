/- A text found among the ends of a text: walked. Conditions: none. -/
import Derived.Test.YtoiebdgnfjgcpaaS1
import Derived.Test.YtoiebdgnfjgcpaaVpZ
set_option linter.unusedVariables false
set_option linter.unusedSimpArgs false
set_option maxRecDepth 100000
namespace Go.Proofs.Ytoiebdgnfjgcpaa.S
open Go.Vc Go.Fu
theorem frozen1 {P : Program} {f : FuncId} {args : Tys} {t : Ty} {pre : Ts args → Prop} {fn : Ts args → List (T t)} (h : Con P f ⟨args, [.own t], pre, fn⟩) (x : Ts args) (hx : pre x) : RC P f (encAs args x) (encA (.sl t) (fn x)) := by
  refine ACalls.freezeT 1 (ACallsMono (h.2 x hx) fun r S' hr => ?_)
  obtain ⟨ys, h1, rfl⟩ := hr
  rcases h1 with ⟨v, ys', S1, rfl, rfl, h2⟩ | ⟨h0, ys', rfl, h2⟩
  · obtain ⟨rfl, rfl⟩ := h2
    show derefT [Ob.row v (szT t) ((fn x).flatMap (encT t))] 1 (AVal.sl 0 v 0 (fn x).length) = _
    have hl : ∀ l : List (T t), (l.flatMap (encT t)).length = l.length * szT t := fun l => by
      induction l with
      | nil => simp
      | cons a l ih => rw [List.flatMap_cons, List.length_append, ih, encT_length, List.length_cons, Nat.add_mul]; omega
    have e := hl (fn x)
    simp only [derefT, List.getElem?_cons_zero, if_pos, List.drop_zero]
    show AVal.ros (fn x).length ((((fn x).flatMap (encT t)).take ((fn x).length * szT t)).map (fun y => y)) = _
    rw [List.map_id', List.take_of_length_le (by omega)]
    rfl
  · obtain ⟨rfl, rfl⟩ := h2
    have h0 : fn x = [] := h0
    show derefT _ 1 _ = _
    rw [h0]; rfl
theorem map_int (l : List Int) : ints64 l = l.flatMap (encT tI) := by
  induction l with
  | nil => rfl
  | cons a l ih => exact congrArg (fun z => AVal.int .i64 a :: z) ih
theorem sorted_use (hC : Con Try.prog f_suffix_sorted suffix_sorted_ct) {s : Bytes} (hs : s.length ≤ 600) : RC Try.prog f_suffix_sorted [.str s] (.ros (saOf s).length (ints64 (saOf s))) := by
  have := frozen1 hC s hs
  rw [map_int]; exact this

theorem Find_walk (hC : Con Try.prog f_suffix_sorted suffix_sorted_ct) (s f : Bytes) :
    HC Try.prog f_suffix_Find [.str s, .str f] HM.nil fun r m' => (∃ e, findAll s f = ([], e) ∧ r = .tup [.nils, .int .i64 e]) ∨ ∃ x ml X, r = .tup [x, .int .i64 0] ∧ findAll s f = (findAt s f, 0) ∧ SlW 1 x (ints64 (findAt s f)) (findAt s f).length ml ∧ m' = ml + X := by
  intro S mf hS
  rw [HM.nil_add] at hS
  refine suffix_Find_ok.out rfl ?_ (by simp [suffix_Find_fi])
  unfold vcFun suffix_Find_fi
  dsimp only
  unfold suffix_Find_c
  dsimp only [argF]
  repeat (with_reducible first | refine c_seq ?_ | refine on_n ?_ | refine c_skip ?_ | refine c_block ?_ | refine on_r ?_ | refine c_ret ?_ | refine c_exit ?_ | refine on_e ?_ | refine ob_e ?_ | refine ob_n ?_ | refine ob_r ?_ | refine ob_x rfl ?_)
  refine c_ops ?_
  refine r_op (o_box hS rfl fun v2 l2 S hS => s_no ?_)
  try dsimp only [putF, rd, Frame.get]
  try dsimp only [putF, rd, Frame.get, setCells, over] at hS
  refine r_op (o_box hS rfl fun v3 l3 S hS => s_no ?_)
  try dsimp only [putF, rd, Frame.get]
  try dsimp only [putF, rd, Frame.get, setCells, over] at hS
  refine r_op (o_mov (s_no ?_))
  try dsimp only [putF, rd, Frame.get]
  refine r_op (o_mov (s_no ?_))
  try dsimp only [putF, rd, Frame.get]
  refine r_nil (c_keep ?_)
  try dsimp only [List.map]
  try dsimp only [putF, rd, Frame.get]
  repeat (with_reducible first | refine c_seq ?_ | refine on_n ?_ | refine c_skip ?_ | refine c_block ?_ | refine on_r ?_ | refine c_ret ?_ | refine c_exit ?_ | refine on_e ?_ | refine ob_e ?_ | refine ob_n ?_ | refine ob_r ?_ | refine ob_x rfl ?_)
  have bad : ∀ e, findFault s f = e → e ≠ 0 → findAll s f = ([], e) := fun e h1 h2 => by unfold findAll; rw [if_neg (by rw [h1]; exact h2), h1]
  by_cases q1 : 600 < s.length
  · have hb : findFault s f = 1 := by unfold findFault; rw [if_pos (.inl q1)]
    refine c_ops ?_
    first | refine r_op (o_load hS rfl rfl rfl rfl (s_no ?_)) | refine r_op (o_load hS rfl rfl (by assumption) rfl (s_no ?_)) | refine r_op (o_loadR rfl rfl rfl (s_no ?_)) | refine r_op (o_loadR rfl (by assumption) rfl (s_no ?_))
    try dsimp only [putF, rd, Frame.get]
    refine r_op (o_len rfl (s_no ?_))
    try dsimp only [putF, rd, Frame.get]
    refine r_op (o_bin rfl (by first | trivial | (unfold inI64; omega)) (s_no ?_))
    try dsimp only [putF, rd, Frame.get]
    refine r_op ?_
    refine o_mov (s_dec (fun hg => ?_) (fun hg => by exfalso; omega))
    try dsimp only [putF, rd, Frame.get]
    first | ((with_reducible refine r_st ?_ ?_); (· rfl)) | ((with_reducible refine r_sf ?_ ?_); (· rfl)) | ((with_reducible refine r_su (xs := []) ?_ ?_); (· rfl)) | refine r_ff rfl (o_load hS rfl rfl rfl rfl (s_no ?_)) | refine r_ff rfl (o_load hS rfl rfl (by assumption) rfl (s_no ?_)) | refine r_ff rfl (o_loadR rfl rfl rfl (s_no ?_)) | refine r_ff rfl (o_loadR rfl (by assumption) rfl (s_no ?_))
    try dsimp only [putF, rd, Frame.get]
    first | ((with_reducible refine r_st ?_ ?_); (· rfl)) | ((with_reducible refine r_sf ?_ ?_); (· rfl)) | ((with_reducible refine r_su (xs := []) ?_ ?_); (· rfl)) | refine r_ff rfl (o_len rfl (s_no ?_))
    try dsimp only [putF, rd, Frame.get]
    first | ((with_reducible refine r_st ?_ ?_); (· rfl)) | ((with_reducible refine r_sf ?_ ?_); (· rfl)) | ((with_reducible refine r_su (xs := []) ?_ ?_); (· rfl)) | refine r_ff rfl (o_bin rfl (by first | trivial | (unfold inI64; omega)) (s_no ?_))
    try dsimp only [putF, rd, Frame.get]
    first | refine r_op (o_pickT rfl (s_no ?_)) | refine r_op (o_pickF rfl (s_no ?_))
    try dsimp only [putF, rd, Frame.get]
    refine r_op (o_mov (s_no ?_))
    try dsimp only [putF, rd, Frame.get]
    refine r_nil (c_keep ?_)
    try dsimp only [List.map]
    try dsimp only [putF, rd, Frame.get]
    repeat (with_reducible first | refine c_seq ?_ | refine on_n ?_ | refine c_skip ?_ | refine c_block ?_ | refine on_r ?_ | refine c_ret ?_ | refine c_exit ?_ | refine on_e ?_ | refine ob_e ?_ | refine ob_n ?_ | refine ob_r ?_ | refine ob_x rfl ?_)
    refine c_bool rfl (fun _ => ?_) (fun h => by cases h)
    repeat (with_reducible first | refine c_seq ?_ | refine on_n ?_ | refine c_skip ?_ | refine c_block ?_ | refine on_r ?_ | refine c_ret ?_ | refine c_exit ?_ | refine on_e ?_ | refine ob_e ?_ | refine ob_n ?_ | refine ob_r ?_ | refine ob_x rfl ?_)
    refine c_ops ?_
    refine r_op (o_mov (s_no ?_))
    try dsimp only [putF, rd, Frame.get]
    refine r_op (o_mov (s_no ?_))
    try dsimp only [putF, rd, Frame.get]
    refine r_nil (c_keep ?_)
    try dsimp only [List.map]
    try dsimp only [putF, rd, Frame.get]
    repeat (with_reducible first | refine c_seq ?_ | refine on_n ?_ | refine c_skip ?_ | refine c_block ?_ | refine on_r ?_ | refine c_ret ?_ | refine c_exit ?_ | refine on_e ?_ | refine ob_e ?_ | refine ob_n ?_ | refine ob_r ?_ | refine ob_x rfl ?_)
    try dsimp only
    unfold suffix_Find_r
    refine w_tmp (w_tmp (w_nil ?_))
    try dsimp only [retV, Frame.get]
    exact ⟨pt l3 (.row v3 0 [.str f]) + pt l2 (.row v2 0 [.str s]), .inl ⟨1, bad 1 hb (by decide), rfl⟩, hS.eq (by ac_rfl)⟩
  refine c_ops ?_
  first | refine r_op (o_load hS rfl rfl rfl rfl (s_no ?_)) | refine r_op (o_load hS rfl rfl (by assumption) rfl (s_no ?_)) | refine r_op (o_loadR rfl rfl rfl (s_no ?_)) | refine r_op (o_loadR rfl (by assumption) rfl (s_no ?_))
  try dsimp only [putF, rd, Frame.get]
  refine r_op (o_len rfl (s_no ?_))
  try dsimp only [putF, rd, Frame.get]
  refine r_op (o_bin rfl (by first | trivial | (unfold inI64; omega)) (s_no ?_))
  try dsimp only [putF, rd, Frame.get]
  refine r_op ?_
  refine o_mov (s_dec (fun hg => by exfalso; omega) (fun hg => ?_))
  try dsimp only [putF, rd, Frame.get]
  first | ((with_reducible refine r_st ?_ ?_); (· rfl)) | ((with_reducible refine r_sf ?_ ?_); (· rfl)) | ((with_reducible refine r_su (xs := []) ?_ ?_); (· rfl)) | refine r_ff rfl (o_load hS rfl rfl rfl rfl (s_no ?_)) | refine r_ff rfl (o_load hS rfl rfl (by assumption) rfl (s_no ?_)) | refine r_ff rfl (o_loadR rfl rfl rfl (s_no ?_)) | refine r_ff rfl (o_loadR rfl (by assumption) rfl (s_no ?_))
  try dsimp only [putF, rd, Frame.get]
  first | ((with_reducible refine r_st ?_ ?_); (· rfl)) | ((with_reducible refine r_sf ?_ ?_); (· rfl)) | ((with_reducible refine r_su (xs := []) ?_ ?_); (· rfl)) | refine r_ff rfl (o_len rfl (s_no ?_))
  try dsimp only [putF, rd, Frame.get]
  first | ((with_reducible refine r_st ?_ ?_); (· rfl)) | ((with_reducible refine r_sf ?_ ?_); (· rfl)) | ((with_reducible refine r_su (xs := []) ?_ ?_); (· rfl)) | refine r_ff rfl (o_bin rfl (by first | trivial | (unfold inI64; omega)) (s_no ?_))
  try dsimp only [putF, rd, Frame.get]
  first | refine r_op (o_pickT rfl (s_no ?_)) | refine r_op (o_pickF rfl (s_no ?_))
  try dsimp only [putF, rd, Frame.get]
  refine r_op (o_mov (s_no ?_))
  try dsimp only [putF, rd, Frame.get]
  refine r_nil (c_keep ?_)
  try dsimp only [List.map]
  try dsimp only [putF, rd, Frame.get]
  repeat (with_reducible first | refine c_seq ?_ | refine on_n ?_ | refine c_skip ?_ | refine c_block ?_ | refine on_r ?_ | refine c_ret ?_ | refine c_exit ?_ | refine on_e ?_ | refine ob_e ?_ | refine ob_n ?_ | refine ob_r ?_ | refine ob_x rfl ?_)
  refine c_dec rfl (fun q2 => ?_) (fun q2 => ?_)
  · have hb : findFault s f = 1 := by unfold findFault; rw [if_pos (.inr (by omega))]
    repeat (with_reducible first | refine c_seq ?_ | refine on_n ?_ | refine c_skip ?_ | refine c_block ?_ | refine on_r ?_ | refine c_ret ?_ | refine c_exit ?_ | refine on_e ?_ | refine ob_e ?_ | refine ob_n ?_ | refine ob_r ?_ | refine ob_x rfl ?_)
    refine c_ops ?_
    refine r_op (o_mov (s_no ?_))
    try dsimp only [putF, rd, Frame.get]
    refine r_op (o_mov (s_no ?_))
    try dsimp only [putF, rd, Frame.get]
    refine r_nil (c_keep ?_)
    try dsimp only [List.map]
    try dsimp only [putF, rd, Frame.get]
    repeat (with_reducible first | refine c_seq ?_ | refine on_n ?_ | refine c_skip ?_ | refine c_block ?_ | refine on_r ?_ | refine c_ret ?_ | refine c_exit ?_ | refine on_e ?_ | refine ob_e ?_ | refine ob_n ?_ | refine ob_r ?_ | refine ob_x rfl ?_)
    try dsimp only
    unfold suffix_Find_r
    refine w_tmp (w_tmp (w_nil ?_))
    try dsimp only [retV, Frame.get]
    exact ⟨pt l3 (.row v3 0 [.str f]) + pt l2 (.row v2 0 [.str s]), .inl ⟨1, bad 1 hb (by decide), rfl⟩, hS.eq (by ac_rfl)⟩
  repeat (with_reducible first | refine c_seq ?_ | refine on_n ?_ | refine c_skip ?_ | refine c_block ?_ | refine on_r ?_ | refine c_ret ?_ | refine c_exit ?_ | refine on_e ?_ | refine ob_e ?_ | refine ob_n ?_ | refine ob_r ?_ | refine ob_x rfl ?_)
  refine c_ops ?_
  first | refine r_op (o_load hS rfl rfl rfl rfl (s_no ?_)) | refine r_op (o_load hS rfl rfl (by assumption) rfl (s_no ?_)) | refine r_op (o_loadR rfl rfl rfl (s_no ?_)) | refine r_op (o_loadR rfl (by assumption) rfl (s_no ?_))
  try dsimp only [putF, rd, Frame.get]
  refine r_op (o_bin rfl (by first | trivial | (unfold inI64; omega)) (s_no ?_))
  try dsimp only [putF, rd, Frame.get]
  refine r_op (o_mov (s_no ?_))
  try dsimp only [putF, rd, Frame.get]
  refine r_nil (c_keep ?_)
  try dsimp only [List.map]
  try dsimp only [putF, rd, Frame.get]
  repeat (with_reducible first | refine c_seq ?_ | refine on_n ?_ | refine c_skip ?_ | refine c_block ?_ | refine on_r ?_ | refine c_ret ?_ | refine c_exit ?_ | refine on_e ?_ | refine ob_e ?_ | refine ob_n ?_ | refine ob_r ?_ | refine ob_x rfl ?_)
  refine c_dec rfl (fun q3 => ?_) (fun q3 => ?_)
  · have hb : findFault s f = 4 := by unfold findFault; rw [if_neg (by omega), if_pos q3]
    repeat (with_reducible first | refine c_seq ?_ | refine on_n ?_ | refine c_skip ?_ | refine c_block ?_ | refine on_r ?_ | refine c_ret ?_ | refine c_exit ?_ | refine on_e ?_ | refine ob_e ?_ | refine ob_n ?_ | refine ob_r ?_ | refine ob_x rfl ?_)
    refine c_ops ?_
    refine r_op (o_mov (s_no ?_))
    try dsimp only [putF, rd, Frame.get]
    refine r_op (o_mov (s_no ?_))
    try dsimp only [putF, rd, Frame.get]
    refine r_nil (c_keep ?_)
    try dsimp only [List.map]
    try dsimp only [putF, rd, Frame.get]
    repeat (with_reducible first | refine c_seq ?_ | refine on_n ?_ | refine c_skip ?_ | refine c_block ?_ | refine on_r ?_ | refine c_ret ?_ | refine c_exit ?_ | refine on_e ?_ | refine ob_e ?_ | refine ob_n ?_ | refine ob_r ?_ | refine ob_x rfl ?_)
    try dsimp only
    unfold suffix_Find_r
    refine w_tmp (w_tmp (w_nil ?_))
    try dsimp only [retV, Frame.get]
    exact ⟨pt l3 (.row v3 0 [.str f]) + pt l2 (.row v2 0 [.str s]), .inl ⟨4, bad 4 hb (by decide), rfl⟩, hS.eq (by ac_rfl)⟩
  have good : findAll s f = (findAt s f, 0) := by
    have : findFault s f = 0 := by unfold findFault; rw [if_neg (by omega), if_neg q3]
    unfold findAll; rw [if_pos this]
  have sp := sa_spec s
  have slen := sa_len sp
  have hin : ∀ i ∈ saOf s, inT s i := fun i hi => sa_in sp.1 hi
  repeat (with_reducible first | refine c_seq ?_ | refine on_n ?_ | refine c_skip ?_ | refine c_block ?_ | refine on_r ?_ | refine c_ret ?_ | refine c_exit ?_ | refine on_e ?_ | refine ob_e ?_ | refine ob_n ?_ | refine ob_r ?_ | refine ob_x rfl ?_)
  refine c_ops ?_
  first | refine r_op (o_load hS rfl rfl rfl rfl (s_no ?_)) | refine r_op (o_load hS rfl rfl (by assumption) rfl (s_no ?_)) | refine r_op (o_loadR rfl rfl rfl (s_no ?_)) | refine r_op (o_loadR rfl (by assumption) rfl (s_no ?_))
  try dsimp only [putF, rd, Frame.get]
  refine r_op (o_call ?_)
  dsimp only [List.map, putF, rd, Frame.get]
  refine (sorted_use hC (s := s) (by omega)).use ?_
  refine s_no ?_
  try dsimp only [putF, rd, Frame.get]
  refine r_op (o_alloc hS fun v6 l6 S hS => s_no ?_)
  try dsimp only [putF, rd, Frame.get]
  first | refine r_op (o_store hS rfl rfl rfl rfl (by simp) fun S hS => s_no ?_) | refine r_op (o_store hS rfl rfl rfl rfl (by assumption) fun S hS => s_no ?_)
  try dsimp only [putF, rd, Frame.get]
  try dsimp only [putF, rd, Frame.get, setCells, over] at hS
  refine r_nil (c_keep ?_)
  try dsimp only [List.map]
  try dsimp only [putF, rd, Frame.get]
  generalize hsa : saOf s = sa at *
  have hblk := @sa_block s f
  have hsf := @sort_filter s f
  rw [hsa] at hblk hsf
  have hm : ∀ i j, i ≤ j → j < sa.length → (!Op.bytesLess (suf s (gt sa (i : Int))) f) = true → (!Op.bytesLess (suf s (gt sa (j : Int))) f) = true := fun i j hij hj h => by
    rw [Bool.not_eq_true', less_not] at h ⊢
    by_cases e : i = j
    · rw [← e]; exact h
    · exact fun q => h (lex_trans (sa_lt sp (by omega) (show (i : Int) < j by omega) (by omega)) q)
  have hSe := Search_walk sa.length (by omega) f_suffix_Find_1 [.ptr l2 v2 0, .ptr l6 v6 0, .ptr l3 v3 0] (FdM l2 v2 l6 v6 l3 v3 s f sa) (fun k => !Op.bytesLess (suf s (gt sa (k : Int))) f) hm (fun k hk => fd_walk (by omega) hin k hk)
  have hS := hS.eq (m' := FdM l2 v2 l6 v6 l3 v3 s f sa + mf) (by show _ = pt l2 (.row v2 0 [.str s]) + (pt l6 (.row v6 0 [.ros sa.length (ints64 sa)]) + pt l3 (.row v3 0 [.str f])) + mf; ac_rfl)
  repeat (with_reducible first | refine c_seq ?_ | refine on_n ?_ | refine c_skip ?_ | refine c_block ?_ | refine on_r ?_ | refine c_ret ?_ | refine c_exit ?_ | refine on_e ?_ | refine ob_e ?_ | refine ob_n ?_ | refine ob_r ?_ | refine ob_x rfl ?_)
  refine c_ops ?_
  first | refine r_op (o_load hS rfl rfl rfl rfl (s_no ?_)) | refine r_op (o_load hS rfl rfl (by assumption) rfl (s_no ?_)) | refine r_op (o_loadR rfl rfl rfl (s_no ?_)) | refine r_op (o_loadR rfl (by assumption) rfl (s_no ?_))
  try dsimp only [putF, rd, Frame.get]
  refine r_op (o_len rfl (s_no ?_))
  try dsimp only [putF, rd, Frame.get]
  refine r_op (o_mkfunc (s_no ?_))
  try dsimp only [putF, rd, Frame.get]
  refine r_op (o_call ?_)
  dsimp only [List.map, putF, rd, Frame.get]
  refine HC.use hSe hS ?_; rintro r m' S ⟨lo, X, rfl, hlo, hl1, hl2, rfl⟩ hS
  refine s_no ?_
  try dsimp only [putF, rd, Frame.get]
  refine r_op (o_mov (s_no ?_))
  try dsimp only [putF, rd, Frame.get]
  refine r_nil (c_keep ?_)
  try dsimp only [List.map]
  try dsimp only [putF, rd, Frame.get]
  have hS := hS.eq (m' := pt l2 (.row v2 0 [.str s]) + (pt l6 (.row v6 0 [.ros sa.length (ints64 sa)]) + (pt l3 (.row v3 0 [.str f]) + (X + mf)))) (by show pt l2 (.row v2 0 [.str s]) + (pt l6 (.row v6 0 [.ros sa.length (ints64 sa)]) + pt l3 (.row v3 0 [.str f])) + X + mf = _; ac_rfl)
  repeat (with_reducible first | refine c_seq ?_ | refine on_n ?_ | refine c_skip ?_ | refine c_block ?_ | refine on_r ?_ | refine c_ret ?_ | refine c_exit ?_ | refine on_e ?_ | refine ob_e ?_ | refine ob_n ?_ | refine ob_r ?_ | refine ob_x rfl ?_)
  refine c_ops ?_
  refine r_op (o_mov (s_no ?_))
  try dsimp only [putF, rd, Frame.get]
  refine r_op (o_mov (s_no ?_))
  try dsimp only [putF, rd, Frame.get]
  refine r_nil (c_keep ?_)
  try dsimp only [List.map]
  try dsimp only [putF, rd, Frame.get]
  repeat (with_reducible first | refine c_seq ?_ | refine on_n ?_ | refine c_skip ?_ | refine c_block ?_ | refine on_r ?_ | refine c_ret ?_ | refine c_exit ?_ | refine on_e ?_ | refine ob_e ?_ | refine ob_n ?_ | refine ob_r ?_ | refine ob_x rfl ?_)
  refine c_loop (fun k xs S => ∃ hi : Nat, xs = [.int .i64 (hi : Int)] ∧ lo ≤ hi ∧ hi ≤ sa.length ∧ k = sa.length - hi ∧ (∀ x : Int, lo ≤ x → x < hi → f <+: suf s (gt sa x)) ∧ Has S (pt l2 (.row v2 0 [.str s]) + (pt l6 (.row v6 0 [.ros sa.length (ints64 sa)]) + (pt l3 (.row v3 0 [.str f]) + (X + mf))))) (sa.length - lo) ⟨lo, rfl, Nat.le_refl _, hlo, rfl, fun x h1 h2 => by omega, hS⟩ ?_
  clear hS
  rintro k xs S hl' ⟨hi, rfl, hh0, hh1, rfl, hp, hS⟩
  dsimp only [zipF, List.map, Frame.get]
  repeat (with_reducible first | refine c_seq ?_ | refine on_n ?_ | refine c_skip ?_ | refine c_block ?_ | refine on_r ?_ | refine c_ret ?_ | refine c_exit ?_ | refine on_e ?_ | refine ob_e ?_ | refine ob_n ?_ | refine ob_r ?_ | refine ob_x rfl ?_)
  by_cases hlt : hi < sa.length
  · have ht : takeN 1 ((ints64 sa).drop (hi * 1)) = some [.int .i64 (gt sa (hi : Int))] := by rw [Nat.mul_one]; exact ints_at hlt
    have hinI := hin _ (gt_mem (l := sa) (i := (hi : Int)) (by omega) (by omega))
    obtain ⟨j, hj⟩ : ∃ j : Nat, gt sa (hi : Int) = (j : Int) := ⟨(gt sa (hi : Int)).toNat, by have : 0 ≤ gt sa (hi : Int) := hinI.1; omega⟩
    have hj1 : j < s.length := by have : gt sa (hi : Int) < s.length := hinI.2; omega
    rw [hj] at ht
    have hsu : (s.take s.length).drop j = suf s (gt sa (hi : Int)) := by rw [List.take_length, hj]; rfl
    refine c_opsD0 hS fun S hS => ?_
    refine d_zero ?_
    refine r_op (o_mov (s_no ?_))
    try dsimp only [putF, rd, Frame.get]
    first | refine r_op (o_load hS rfl rfl rfl rfl (s_no ?_)) | refine r_op (o_load hS rfl rfl (by assumption) rfl (s_no ?_)) | refine r_op (o_loadR rfl rfl rfl (s_no ?_)) | refine r_op (o_loadR rfl (by assumption) rfl (s_no ?_))
    try dsimp only [putF, rd, Frame.get]
    refine r_op (o_len rfl (s_no ?_))
    try dsimp only [putF, rd, Frame.get]
    refine r_op (o_bin rfl (by first | trivial | (unfold inI64; omega)) (s_no ?_))
    try dsimp only [putF, rd, Frame.get]
    refine r_op ?_
    refine o_mov (s_dec (fun hg => ?_) (fun hg => by exfalso; omega))
    try dsimp only [putF, rd, Frame.get]
    first | ((with_reducible refine r_st ?_ ?_); (· rfl)) | ((with_reducible refine r_sf ?_ ?_); (· rfl)) | ((with_reducible refine r_su (xs := []) ?_ ?_); (· rfl)) | refine r_tt rfl (o_load hS rfl rfl rfl rfl (s_no ?_)) | refine r_tt rfl (o_load hS rfl rfl (by assumption) rfl (s_no ?_)) | refine r_tt rfl (o_loadR rfl rfl rfl (s_no ?_)) | refine r_tt rfl (o_loadR rfl (by assumption) rfl (s_no ?_))
    try dsimp only [putF, rd, Frame.get]
    first | ((with_reducible refine r_st ?_ ?_); (· rfl)) | ((with_reducible refine r_sf ?_ ?_); (· rfl)) | ((with_reducible refine r_su (xs := []) ?_ ?_); (· rfl)) | refine r_tt rfl (o_load hS rfl rfl rfl rfl (s_no ?_)) | refine r_tt rfl (o_load hS rfl rfl (by assumption) rfl (s_no ?_)) | refine r_tt rfl (o_loadR rfl rfl rfl (s_no ?_)) | refine r_tt rfl (o_loadR rfl (by assumption) rfl (s_no ?_))
    try dsimp only [putF, rd, Frame.get]
    first | ((with_reducible refine r_st ?_ ?_); (· rfl)) | ((with_reducible refine r_sf ?_ ?_); (· rfl)) | ((with_reducible refine r_su (xs := []) ?_ ?_); (· rfl)) | refine r_tt rfl (o_mov (s_no ?_))
    try dsimp only [putF, rd, Frame.get]
    first | ((with_reducible refine r_st ?_ ?_); (· rfl)) | ((with_reducible refine r_sf ?_ ?_); (· rfl)) | ((with_reducible refine r_su (xs := []) ?_ ?_); (· rfl)) | refine r_tt rfl (o_iaddr hS rfl rfl rfl (by omega) (s_no ?_)) | refine r_tt rfl (o_iaddrR rfl rfl (by omega) (by assumption) (s_no ?_)) | refine r_tt rfl (o_iaddrA rfl rfl (by omega) (s_no ?_)) | refine r_tt rfl (o_iaddrAR rfl rfl (by omega) (s_no ?_))
    try dsimp only [putF, rd, Frame.get]
    try simp only [Nat.zero_mul, Nat.mul_zero, Nat.mul_one, Nat.add_zero, Nat.zero_add, Nat.sub_zero, Nat.reduceAdd, Nat.reduceMul]
    first | ((with_reducible refine r_st ?_ ?_); (· rfl)) | ((with_reducible refine r_sf ?_ ?_); (· rfl)) | ((with_reducible refine r_su (xs := []) ?_ ?_); (· rfl)) | refine r_tt rfl (o_load hS rfl rfl rfl rfl (s_no ?_)) | refine r_tt rfl (o_load hS rfl rfl (by assumption) rfl (s_no ?_)) | refine r_tt rfl (o_loadR rfl rfl rfl (s_no ?_)) | refine r_tt rfl (o_loadR rfl (by assumption) rfl (s_no ?_))
    try dsimp only [putF, rd, Frame.get]
    first | refine r_tt rfl (o_sliceS rfl rfl ⟨_, rfl⟩ (by omega) (by omega) (s_no ?_))
    try dsimp only [putF, rd, Frame.get]
    try simp only [Nat.zero_mul, Nat.mul_zero, Nat.mul_one, Nat.add_zero, Nat.zero_add, Nat.sub_zero, Nat.reduceAdd, Nat.reduceMul]
    first | ((with_reducible refine r_st ?_ ?_); (· rfl)) | ((with_reducible refine r_sf ?_ ?_); (· rfl)) | ((with_reducible refine r_su (xs := []) ?_ ?_); (· rfl)) | refine r_tt rfl (o_load hS rfl rfl rfl rfl (s_no ?_)) | refine r_tt rfl (o_load hS rfl rfl (by assumption) rfl (s_no ?_)) | refine r_tt rfl (o_loadR rfl rfl rfl (s_no ?_)) | refine r_tt rfl (o_loadR rfl (by assumption) rfl (s_no ?_))
    try dsimp only [putF, rd, Frame.get]
    refine r_tt rfl (o_call ?_)
    dsimp only [List.map, putF, rd, Frame.get]
    rw [hsu]; refine (HasPrefix_rc _ f).use ?_
    refine s_no ?_
    try dsimp only [putF, rd, Frame.get]
    first | refine r_op (o_pickT rfl (s_no ?_)) | refine r_op (o_pickF rfl (s_no ?_))
    try dsimp only [putF, rd, Frame.get]
    refine r_nil (c_keep ?_)
    try dsimp only [List.map]
    try dsimp only [putF, rd, Frame.get]
    repeat (with_reducible first | refine c_seq ?_ | refine on_n ?_ | refine c_skip ?_ | refine c_block ?_ | refine on_r ?_ | refine c_ret ?_ | refine c_exit ?_ | refine on_e ?_ | refine ob_e ?_ | refine ob_n ?_ | refine ob_r ?_ | refine ob_x rfl ?_)
    cases hpb : hasP (suf s (gt sa (hi : Int))) f with
    | true =>
      refine c_bool rfl (fun _ => ?_) (fun h => by cases h)
      repeat (with_reducible first | refine c_seq ?_ | refine on_n ?_ | refine c_skip ?_ | refine c_block ?_ | refine on_r ?_ | refine c_ret ?_ | refine c_exit ?_ | refine on_e ?_ | refine ob_e ?_ | refine ob_n ?_ | refine ob_r ?_ | refine ob_x rfl ?_)
      refine c_ops ?_
      refine r_op (o_mov (s_no ?_))
      try dsimp only [putF, rd, Frame.get]
      refine r_op (o_bin rfl (by first | trivial | (unfold inI64; omega)) (s_no ?_))
      try dsimp only [putF, rd, Frame.get]
      refine r_op (o_mov (s_no ?_))
      try dsimp only [putF, rd, Frame.get]
      refine r_nil (c_keep ?_)
      try dsimp only [List.map]
      try dsimp only [putF, rd, Frame.get]
      repeat (with_reducible first | refine c_seq ?_ | refine on_n ?_ | refine c_skip ?_ | refine c_block ?_ | refine on_r ?_ | refine c_ret ?_ | refine c_exit ?_ | refine on_e ?_ | refine ob_e ?_ | refine ob_n ?_ | refine ob_r ?_ | refine ob_x rfl ?_)
      refine ⟨sa.length - (hi + 1), by omega, hi + 1, rfl, by omega, by omega, rfl, fun x h1 h2 => ?_, hS⟩
      by_cases e : x = hi
      · rw [e]; exact (hasP_iff _ _).1 hpb
      · exact hp x h1 (by omega)
    | false =>
      refine c_bool rfl (fun h => by cases h) (fun _ => ?_)
      repeat (with_reducible first | refine c_seq ?_ | refine on_n ?_ | refine c_skip ?_ | refine c_block ?_ | refine on_r ?_ | refine c_ret ?_ | refine c_exit ?_ | refine on_e ?_ | refine ob_e ?_ | refine ob_n ?_ | refine ob_r ?_ | refine ob_x rfl ?_)
      have hnp : ¬ f <+: suf s (gt sa (hi : Int)) := fun q => by rw [(hasP_iff _ _).2 q] at hpb; cases hpb
      have hfa := hsf (lo := lo) (hi := hi) (by omega) (by omega) (by omega) (hblk (lo := lo) (hi := hi) (by omega) (by omega) (by omega) (fun k k0 k1 => by
        have := hl1 k.toNat (by omega)
        rw [show ((k.toNat : Nat) : Int) = k by omega, Bool.not_eq_false', lessLex] at this
        exact this) hp (fun h => by
        have := hl2 (by omega)
        rw [Bool.not_eq_true', less_not] at this
        exact this) (fun _ => hnp))
      have hcs : sa.length * (0 + 1) ≤ (ints64 sa).length := by rw [List.length_map]; omega
      have hwl : subL (ints64 sa) lo (hi - lo) = ints64 ((sa.take hi).drop lo) := by
        unfold subL ints64
        rw [List.drop_take, List.map_take, List.map_drop]
      have hwn : ((sa.take hi).drop lo).length = hi - lo := by rw [List.length_drop, List.length_take]; omega
      have hfa' : sortL ((sa.take hi).drop lo) = findAt s f := by simpa [sortL] using hfa
      have hlen' : (findAt s f).length = hi - lo := by rw [← hfa', sortL_length, hwn]
      refine c_ops ?_
      first | refine r_op (o_load hS rfl rfl rfl rfl (s_no ?_)) | refine r_op (o_load hS rfl rfl (by assumption) rfl (s_no ?_)) | refine r_op (o_loadR rfl rfl rfl (s_no ?_)) | refine r_op (o_loadR rfl (by assumption) rfl (s_no ?_))
      try dsimp only [putF, rd, Frame.get]
      refine r_op (o_mov (s_no ?_))
      try dsimp only [putF, rd, Frame.get]
      refine r_op (o_mov (s_no ?_))
      try dsimp only [putF, rd, Frame.get]
      first | refine r_op (o_slice hS rfl rfl ⟨_, rfl⟩ ⟨_, rfl⟩ (by omega) (by omega) (s_no ?_)) | refine r_op (o_sliceR rfl ⟨_, rfl⟩ ⟨_, rfl⟩ (by omega) (by omega) (by assumption) (s_no ?_)) | refine r_op (o_sliceN rfl ⟨_, rfl⟩ ⟨_, rfl⟩ (s_no ?_))
      try dsimp only [putF, rd, Frame.get]
      try simp only [Nat.zero_mul, Nat.mul_zero, Nat.mul_one, Nat.add_zero, Nat.zero_add, Nat.sub_zero, Nat.reduceAdd, Nat.reduceMul]
      refine r_op ?_
      refine (o_call ?_); dsimp only [List.map, putF, rd, Frame.get]; rw [hwl]; refine (Values_walk (x := .ros (hi - lo) (ints64 ((sa.take hi).drop lo))) rfl).more hS fun r m' S h hS => ?_; obtain ⟨l1, v1, rfl, rfl⟩ := h
      refine s_no ?_
      try dsimp only [putF, rd, Frame.get]
      refine r_op ?_
      refine (o_call ?_); dsimp only [List.map, putF, rd, Frame.get]; refine HC.use (Sorted_walk (by kernel_rfl) (L := (sa.take hi).drop lo) (hwn ▸ values_seq (sa := (sa.take hi).drop lo) (l1 := l1) (v1 := v1) (by omega)) (by omega)) hS ?_; rintro r m' S ⟨ml, X', hx, rfl⟩ hS
      refine s_no ?_
      try dsimp only [putF, rd, Frame.get]
      refine r_op (o_mov (s_no ?_))
      try dsimp only [putF, rd, Frame.get]
      refine r_op (o_mov (s_no ?_))
      try dsimp only [putF, rd, Frame.get]
      refine r_nil (c_keep ?_)
      try dsimp only [List.map]
      try dsimp only [putF, rd, Frame.get]
      repeat (with_reducible first | refine c_seq ?_ | refine on_n ?_ | refine c_skip ?_ | refine c_block ?_ | refine on_r ?_ | refine c_ret ?_ | refine c_exit ?_ | refine on_e ?_ | refine ob_e ?_ | refine ob_n ?_ | refine ob_r ?_ | refine ob_x rfl ?_)
      try dsimp only
      unfold suffix_Find_r
      refine w_tmp (w_tmp (w_nil ?_))
      try dsimp only [retV, Frame.get]
      rw [hfa', hwn, ← hlen'] at hx
      exact ⟨_, .inr ⟨_, ml, X' + (pt l2 (.row v2 0 [.str s]) + (pt l6 (.row v6 0 [.ros sa.length (ints64 sa)]) + (pt l3 (.row v3 0 [.str f]) + X))), rfl, good, hx, rfl⟩, hS.eq (by ac_rfl)⟩
  · refine c_opsD0 hS fun S hS => ?_
    refine d_zero ?_
    refine r_op (o_mov (s_no ?_))
    try dsimp only [putF, rd, Frame.get]
    first | refine r_op (o_load hS rfl rfl rfl rfl (s_no ?_)) | refine r_op (o_load hS rfl rfl (by assumption) rfl (s_no ?_)) | refine r_op (o_loadR rfl rfl rfl (s_no ?_)) | refine r_op (o_loadR rfl (by assumption) rfl (s_no ?_))
    try dsimp only [putF, rd, Frame.get]
    refine r_op (o_len rfl (s_no ?_))
    try dsimp only [putF, rd, Frame.get]
    refine r_op (o_bin rfl (by first | trivial | (unfold inI64; omega)) (s_no ?_))
    try dsimp only [putF, rd, Frame.get]
    refine r_op ?_
    refine o_mov (s_dec (fun hg => by exfalso; omega) (fun hg => ?_))
    try dsimp only [putF, rd, Frame.get]
    first | ((with_reducible refine r_st ?_ ?_); (· rfl)) | ((with_reducible refine r_sf ?_ ?_); (· rfl)) | ((with_reducible refine r_su (xs := []) ?_ ?_); (· rfl)) | refine r_tt rfl (o_load hS rfl rfl rfl rfl (s_no ?_)) | refine r_tt rfl (o_load hS rfl rfl (by assumption) rfl (s_no ?_)) | refine r_tt rfl (o_loadR rfl rfl rfl (s_no ?_)) | refine r_tt rfl (o_loadR rfl (by assumption) rfl (s_no ?_))
    try dsimp only [putF, rd, Frame.get]
    first | ((with_reducible refine r_st ?_ ?_); (· rfl)) | ((with_reducible refine r_sf ?_ ?_); (· rfl)) | ((with_reducible refine r_su (xs := []) ?_ ?_); (· rfl)) | refine r_tt rfl (o_load hS rfl rfl rfl rfl (s_no ?_)) | refine r_tt rfl (o_load hS rfl rfl (by assumption) rfl (s_no ?_)) | refine r_tt rfl (o_loadR rfl rfl rfl (s_no ?_)) | refine r_tt rfl (o_loadR rfl (by assumption) rfl (s_no ?_))
    try dsimp only [putF, rd, Frame.get]
    first | ((with_reducible refine r_st ?_ ?_); (· rfl)) | ((with_reducible refine r_sf ?_ ?_); (· rfl)) | ((with_reducible refine r_su (xs := []) ?_ ?_); (· rfl)) | refine r_tt rfl (o_mov (s_no ?_))
    try dsimp only [putF, rd, Frame.get]
    first | ((with_reducible refine r_st ?_ ?_); (· rfl)) | ((with_reducible refine r_sf ?_ ?_); (· rfl)) | ((with_reducible refine r_su (xs := []) ?_ ?_); (· rfl)) | refine r_tt rfl (o_iaddr hS rfl rfl rfl (by omega) (s_no ?_)) | refine r_tt rfl (o_iaddrR rfl rfl (by omega) (by assumption) (s_no ?_)) | refine r_tt rfl (o_iaddrA rfl rfl (by omega) (s_no ?_)) | refine r_tt rfl (o_iaddrAR rfl rfl (by omega) (s_no ?_))
    try dsimp only [putF, rd, Frame.get]
    try simp only [Nat.zero_mul, Nat.mul_zero, Nat.mul_one, Nat.add_zero, Nat.zero_add, Nat.sub_zero, Nat.reduceAdd, Nat.reduceMul]
    first | ((with_reducible refine r_st ?_ ?_); (· rfl)) | ((with_reducible refine r_sf ?_ ?_); (· rfl)) | ((with_reducible refine r_su (xs := []) ?_ ?_); (· rfl)) | refine r_tt rfl (o_load hS rfl rfl rfl rfl (s_no ?_)) | refine r_tt rfl (o_load hS rfl rfl (by assumption) rfl (s_no ?_)) | refine r_tt rfl (o_loadR rfl rfl rfl (s_no ?_)) | refine r_tt rfl (o_loadR rfl (by assumption) rfl (s_no ?_))
    try dsimp only [putF, rd, Frame.get]
    first | ((with_reducible refine r_st ?_ ?_); (· rfl)) | ((with_reducible refine r_sf ?_ ?_); (· rfl)) | ((with_reducible refine r_su (xs := []) ?_ ?_); (· rfl))
    try dsimp only [putF, rd, Frame.get]
    first | ((with_reducible refine r_st ?_ ?_); (· rfl)) | ((with_reducible refine r_sf ?_ ?_); (· rfl)) | ((with_reducible refine r_su (xs := []) ?_ ?_); (· rfl)) | refine r_tt rfl (o_load hS rfl rfl rfl rfl (s_no ?_)) | refine r_tt rfl (o_load hS rfl rfl (by assumption) rfl (s_no ?_)) | refine r_tt rfl (o_loadR rfl rfl rfl (s_no ?_)) | refine r_tt rfl (o_loadR rfl (by assumption) rfl (s_no ?_))
    try dsimp only [putF, rd, Frame.get]
    first | ((with_reducible refine r_st ?_ ?_); (· rfl)) | ((with_reducible refine r_sf ?_ ?_); (· rfl)) | ((with_reducible refine r_su (xs := []) ?_ ?_); (· rfl))
    try dsimp only [putF, rd, Frame.get]
    first | refine r_op (o_pickT rfl (s_no ?_)) | refine r_op (o_pickF rfl (s_no ?_))
    try dsimp only [putF, rd, Frame.get]
    refine r_nil (c_keep ?_)
    try dsimp only [List.map]
    try dsimp only [putF, rd, Frame.get]
    repeat (with_reducible first | refine c_seq ?_ | refine on_n ?_ | refine c_skip ?_ | refine c_block ?_ | refine on_r ?_ | refine c_ret ?_ | refine c_exit ?_ | refine on_e ?_ | refine ob_e ?_ | refine ob_n ?_ | refine ob_r ?_ | refine ob_x rfl ?_)
    refine c_bool rfl (fun h => by cases h) (fun _ => ?_)
    repeat (with_reducible first | refine c_seq ?_ | refine on_n ?_ | refine c_skip ?_ | refine c_block ?_ | refine on_r ?_ | refine c_ret ?_ | refine c_exit ?_ | refine on_e ?_ | refine ob_e ?_ | refine ob_n ?_ | refine ob_r ?_ | refine ob_x rfl ?_)
    have hnp : hi < sa.length → ¬ f <+: suf s (gt sa (hi : Int)) := fun q => absurd q hlt
    have hfa := hsf (lo := lo) (hi := hi) (by omega) (by omega) (by omega) (hblk (lo := lo) (hi := hi) (by omega) (by omega) (by omega) (fun k k0 k1 => by
      have := hl1 k.toNat (by omega)
      rw [show ((k.toNat : Nat) : Int) = k by omega, Bool.not_eq_false', lessLex] at this
      exact this) hp (fun h => by
      have := hl2 (by omega)
      rw [Bool.not_eq_true', less_not] at this
      exact this) (fun h => hnp (by omega)))
    have hcs : sa.length * (0 + 1) ≤ (ints64 sa).length := by rw [List.length_map]; omega
    have hwl : subL (ints64 sa) lo (hi - lo) = ints64 ((sa.take hi).drop lo) := by
      unfold subL ints64
      rw [List.drop_take, List.map_take, List.map_drop]
    have hwn : ((sa.take hi).drop lo).length = hi - lo := by rw [List.length_drop, List.length_take]; omega
    have hfa' : sortL ((sa.take hi).drop lo) = findAt s f := by simpa [sortL] using hfa
    have hlen' : (findAt s f).length = hi - lo := by rw [← hfa', sortL_length, hwn]
    refine c_ops ?_
    first | refine r_op (o_load hS rfl rfl rfl rfl (s_no ?_)) | refine r_op (o_load hS rfl rfl (by assumption) rfl (s_no ?_)) | refine r_op (o_loadR rfl rfl rfl (s_no ?_)) | refine r_op (o_loadR rfl (by assumption) rfl (s_no ?_))
    try dsimp only [putF, rd, Frame.get]
    refine r_op (o_mov (s_no ?_))
    try dsimp only [putF, rd, Frame.get]
    refine r_op (o_mov (s_no ?_))
    try dsimp only [putF, rd, Frame.get]
    first | refine r_op (o_slice hS rfl rfl ⟨_, rfl⟩ ⟨_, rfl⟩ (by omega) (by omega) (s_no ?_)) | refine r_op (o_sliceR rfl ⟨_, rfl⟩ ⟨_, rfl⟩ (by omega) (by omega) (by assumption) (s_no ?_)) | refine r_op (o_sliceN rfl ⟨_, rfl⟩ ⟨_, rfl⟩ (s_no ?_))
    try dsimp only [putF, rd, Frame.get]
    try simp only [Nat.zero_mul, Nat.mul_zero, Nat.mul_one, Nat.add_zero, Nat.zero_add, Nat.sub_zero, Nat.reduceAdd, Nat.reduceMul]
    refine r_op ?_
    refine (o_call ?_); dsimp only [List.map, putF, rd, Frame.get]; rw [hwl]; refine (Values_walk (x := .ros (hi - lo) (ints64 ((sa.take hi).drop lo))) rfl).more hS fun r m' S h hS => ?_; obtain ⟨l1, v1, rfl, rfl⟩ := h
    refine s_no ?_
    try dsimp only [putF, rd, Frame.get]
    refine r_op ?_
    refine (o_call ?_); dsimp only [List.map, putF, rd, Frame.get]; refine HC.use (Sorted_walk (by kernel_rfl) (L := (sa.take hi).drop lo) (hwn ▸ values_seq (sa := (sa.take hi).drop lo) (l1 := l1) (v1 := v1) (by omega)) (by omega)) hS ?_; rintro r m' S ⟨ml, X', hx, rfl⟩ hS
    refine s_no ?_
    try dsimp only [putF, rd, Frame.get]
    refine r_op (o_mov (s_no ?_))
    try dsimp only [putF, rd, Frame.get]
    refine r_op (o_mov (s_no ?_))
    try dsimp only [putF, rd, Frame.get]
    refine r_nil (c_keep ?_)
    try dsimp only [List.map]
    try dsimp only [putF, rd, Frame.get]
    repeat (with_reducible first | refine c_seq ?_ | refine on_n ?_ | refine c_skip ?_ | refine c_block ?_ | refine on_r ?_ | refine c_ret ?_ | refine c_exit ?_ | refine on_e ?_ | refine ob_e ?_ | refine ob_n ?_ | refine ob_r ?_ | refine ob_x rfl ?_)
    try dsimp only
    unfold suffix_Find_r
    refine w_tmp (w_tmp (w_nil ?_))
    try dsimp only [retV, Frame.get]
    rw [hfa', hwn, ← hlen'] at hx
    exact ⟨_, .inr ⟨_, ml, X' + (pt l2 (.row v2 0 [.str s]) + (pt l6 (.row v6 0 [.ros sa.length (ints64 sa)]) + (pt l3 (.row v3 0 [.str f]) + X))), rfl, good, hx, rfl⟩, hS.eq (by ac_rfl)⟩
theorem suffix_Find_con' (hC : Con Try.prog f_suffix_sorted suffix_sorted_ct) : Con Try.prog f_suffix_Find suffix_Find_ct := by
  refine ⟨suffix_Find_ok.able rfl, fun ⟨s, f⟩ hp => ?_⟩
  refine HC.plainly (Find_walk hC s f) ?_
  rintro r m' S' (⟨e, hd, rfl⟩ | ⟨x, ml, X, rfl, hd, hx, rfl⟩) hS
  · refine ⟨_, id, [], LeV.refl _, has_none, [.nils, .int .i64 e], ?_, rfl⟩
    show resA [.own tI, .val tI] (findAll s f) 0 _ _
    rw [hd]
    exact .inr ⟨rfl, [.int .i64 e], rfl, [], rfl, rfl, rfl⟩
  · rcases hx with ⟨rfl, h0, h1, rfl⟩ | ⟨p, v, rfl, rfl, h1⟩
    · refine ⟨_, id, [], LeV.refl _, has_none, [.nils, .int .i64 0], ?_, rfl⟩
      show resA [.own tI, .val tI] (findAll s f) 0 _ _
      rw [hd, List.length_eq_zero_iff.1 h0]
      exact .inr ⟨rfl, [.int .i64 0], rfl, [], rfl, rfl, rfl⟩
    · rw [map_int] at hS
      refine ⟨.tup [.sl 0 v 0 (findAt s f).length, .int .i64 0], _, _, .tup (.cons .sl (.refl _)), has_one hS, [.sl 0 v 0 (findAt s f).length, .int .i64 0], ?_, rfl⟩
      show resA [.own tI, .val tI] (findAll s f) 0 _ _
      rw [hd]
      exact .inl ⟨v, [.int .i64 0], [], rfl, rfl, [], rfl, rfl, rfl⟩
end Go.Proofs.Ytoiebdgnfjgcpaa.S
