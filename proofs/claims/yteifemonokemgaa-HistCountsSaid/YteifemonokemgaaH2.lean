/- A deed on a history, walked over parts of memory. Conditions: none. -/
import Derived.Test.YteifemonokemgaaH1
set_option linter.unusedVariables false
set_option linter.unusedSimpArgs false
set_option maxRecDepth 100000
namespace Go.Proofs.Yteifemonokemgaa.H
open Go.Vc Go.Fu
/-- What a deed hands back: edits that can be read, a code, and the history. -/
def DeedR (h : HistS) (d : Deed) (lh vh : Nat) (r : AVal) (m' : HM) : Prop :=
  ∃ y a R mh X, r = .tup [y, .int .i64 (hDeed h d).2] ∧ SlR 3 y (encEs (hEdits h d)) (hEdits h d).length a ∧ m' = a + R ∧ m' = mh + X ∧ HistR (hDeed h d).1 lh vh mh
theorem DeedR.of {h h' : HistS} {d : Deed} {c : Int} {es : List Edit} {lh vh : Nat} {y : AVal} {a R mh X m' : HM} (e : hDeed h d = (h', c)) (e2 : hEdits h d = es) (s : SlR 3 y (encEs es) es.length a) (h1 : m' = a + R) (h2 : m' = mh + X) (hm : HistR h' lh vh mh) : DeedR h d lh vh (.tup [y, .int .i64 c]) m' :=
  ⟨y, a, R, mh, X, by rw [e], by rw [e2]; exact s, h1, h2, by rw [e]; exact hm⟩
theorem deed_1 {h : HistS} {x : Edit} (hf : editFault h.text.length x ≠ 0) : hDeed h (1, x) = (h, editFault h.text.length x) ∧ hEdits h (1, x) = [] := by
  constructor
  · unfold hDeed; rw [if_pos rfl, if_pos hf]
  · unfold hEdits; rw [if_pos rfl, if_pos hf]
theorem deed_1' {h : HistS} {x : Edit} (hf : editFault h.text.length x = 0) : hDeed h (1, x) = (hMake h x, 0) ∧ hEdits h (1, x) = [x] := by
  constructor
  · unfold hDeed; rw [if_pos rfl, if_neg (by simpa using hf)]
  · unfold hEdits; rw [if_pos rfl, if_neg (by simpa using hf)]
theorem deed_2 {h : HistS} {x : Edit} : hDeed h (2, x) = (⟨h.text, h.undo, h.redo, false⟩, 0) ∧ hEdits h (2, x) = [] := ⟨rfl, rfl⟩
theorem deed_3 {h : HistS} {x : Edit} (hu : h.undo = []) : hDeed h (3, x) = (h, 7) ∧ hEdits h (3, x) = [] := by
  constructor
  · unfold hDeed; rw [if_neg (by simp), if_neg (by simp), if_pos rfl, if_pos hu]
  · unfold hEdits; rw [if_neg (by simp), if_pos rfl, if_pos hu]
theorem deed_3' {h : HistS} {x : Edit} (hu : h.undo ≠ []) : hDeed h (3, x) = (hUndo h, 0) ∧ hEdits h (3, x) = (lastG h.undo).2.reverse := by
  constructor
  · unfold hDeed; rw [if_neg (by simp), if_neg (by simp), if_pos rfl, if_neg hu]
  · unfold hEdits; rw [if_neg (by simp), if_pos rfl, if_neg hu]
theorem deed_4 {h : HistS} {x : Edit} (hu : h.redo = []) : hDeed h (4, x) = (h, 7) ∧ hEdits h (4, x) = [] := by
  constructor
  · unfold hDeed; rw [if_neg (by simp), if_neg (by simp), if_neg (by simp), if_pos rfl, if_pos hu]
  · unfold hEdits; rw [if_neg (by simp), if_neg (by simp), if_pos rfl, if_pos hu]
theorem deed_4' {h : HistS} {x : Edit} (hu : h.redo ≠ []) : hDeed h (4, x) = (hRedo h, 0) ∧ hEdits h (4, x) = (lastG h.redo).1 := by
  constructor
  · unfold hDeed; rw [if_neg (by simp), if_neg (by simp), if_neg (by simp), if_pos rfl, if_neg hu]
  · unfold hEdits; rw [if_neg (by simp), if_neg (by simp), if_pos rfl, if_neg hu]
theorem deed_5 {h : HistS} {x : Edit} {k : Int} (h1 : ¬ k = 1) (h2 : ¬ k = 2) (h3 : ¬ k = 3) (h4 : ¬ k = 4) : hDeed h (k, x) = (h, 3) ∧ hEdits h (k, x) = [] := by
  constructor
  · unfold hDeed; rw [if_neg h1, if_neg h2, if_neg h3, if_neg h4]
  · unfold hEdits; rw [if_neg h1, if_neg h3, if_neg h4]
/-- A slice of groups that is not empty: its last one. -/
theorem last_grp {l : List Group} (hne : l ≠ []) {x : AVal} {c : List AVal} {m g : HM} (s : SlR 2 x c l.length m) (q : GrR l c g) :
    ∃ p v off A B xd xb n1 md mb, x = .sl p v off (l.dropLast.length + 1) ∧ m = pt p (.row v 2 (A ++ xd :: xb :: B)) ∧ A.length = off + l.dropLast.length * 2 ∧ g = n1 + (md + mb) ∧ GrR l.dropLast (A.drop off) n1 ∧
      SlR 3 xd (encEs (lastG l).1) (lastG l).1.length md ∧ SlR 3 xb (encEs (lastG l).2) (lastG l).2.length mb := by
  have e := split_last hne
  generalize l.dropLast = us at *
  generalize lastG l = g0 at *
  subst e
  have hL : (us ++ [g0]).length = us.length + 1 := by simp
  obtain ⟨c1, c2, n1, n2, rfl, rfl, q1, q2⟩ := GrR.split q
  obtain ⟨xd, xb, md, mb, rfl, rfl, sd, sb⟩ := GrR.one.1 q2
  obtain ⟨p, v, off, cs, rfl, rfl, hle, hcs⟩ := s.pos (by omega)
  rw [hL] at hle hcs ⊢
  rw [show (us.length + 1) * 2 = us.length * 2 + 2 by omega] at hle hcs
  obtain ⟨A, B, rfl, hA, rfl⟩ := split_cells hle hcs q1.clen
  exact ⟨p, v, off, A, B, xd, xb, n1, md, mb, rfl, rfl, hA, rfl, q1, sd, sb⟩
theorem front_grp {p v off n : Nat} {A B : List AVal} (hA : A.length = off + n * 2) : SlR 2 (.sl p v off n) (A.drop off) n (pt p (.row v 2 (A ++ B))) := by
  refine .inr ⟨p, v, off, _, rfl, rfl, by rw [List.length_append]; omega, ?_⟩
  unfold subL
  rw [List.drop_append_of_le_length (by omega), List.take_append_of_le_length (by rw [List.length_drop]; omega), List.take_of_length_le (by rw [List.length_drop]; omega)]
theorem take2_mid {A B : List AVal} {x y : AVal} {n : Nat} (h : A.length = n) : takeN 2 ((A ++ x :: y :: B).drop n) = some [x, y] := by subst h; simp [takeN]

theorem deed_walk (hCk : Con Try.prog f_edit_Check edit_Check_ct) (hMd : Con Try.prog f_edit_Made edit_Made_ct) (hUn : Con Try.prog f_edit_Undo edit_Undo_ct) {h : HistS} {lh vh k : Nat} {m : HM} {d : Deed} (hm : HistR h lh vh m) (i : HInv k h) (hk : k ≤ 1000) (hx : editFits d.2) :
    HC Try.prog f___hist_History__Deed [.ptr lh vh 0, .agg [.int .i64 d.1, .int .i64 d.2.1, .int .i64 d.2.2.1, .str d.2.2.2]] m (DeedR h d lh vh) := by
  obtain ⟨kd, x⟩ := d
  intro S mf hS
  have il := i.len
  have ia := i.all
  refine __hist_History__Deed_ok.out rfl ?_ (by simp [__hist_History__Deed_fi])
  unfold vcFun __hist_History__Deed_fi
  dsimp only
  unfold __hist_History__Deed_c
  dsimp only [argF]
  repeat (with_reducible first | refine c_seq ?_ | refine on_n ?_ | refine c_skip ?_ | refine c_block ?_ | refine on_r ?_ | refine c_ret ?_ | refine c_exit ?_ | refine on_e ?_ | refine ob_e ?_ | refine ob_n ?_ | refine ob_r ?_ | refine ob_x rfl ?_)
  refine c_ops ?_
  refine r_op (o_box hS rfl fun v3 l3 S hS => s_no ?_)
  try dsimp only [putF, rd, Frame.get]
  try dsimp only [putF, rd, Frame.get, setCells, over] at hS
  refine r_op (o_mov (s_no ?_))
  try dsimp only [putF, rd, Frame.get]
  refine r_op (o_mov (s_no ?_))
  try dsimp only [putF, rd, Frame.get]
  refine r_nil (c_keep ?_)
  try dsimp only [List.map]
  try dsimp only [putF, rd, Frame.get]
  repeat (with_reducible first | refine c_seq ?_ | refine on_n ?_ | refine c_skip ?_ | refine c_block ?_ | refine on_r ?_ | refine c_ret ?_ | refine c_exit ?_ | refine on_e ?_ | refine ob_e ?_ | refine ob_n ?_ | refine ob_r ?_ | refine ob_x rfl ?_)
  refine c_ops ?_
  first | refine r_op (o_faddr rfl (s_no ?_)) | refine r_op (o_faddrR rfl (s_no ?_))
  try dsimp only [putF, rd, Frame.get]
  try simp only [Nat.zero_mul, Nat.mul_zero, Nat.mul_one, Nat.add_zero, Nat.zero_add, Nat.sub_zero, Nat.reduceAdd, Nat.reduceMul]
  first | refine r_op (o_load hS rfl rfl rfl rfl (s_no ?_)) | refine r_op (o_load hS rfl rfl (by assumption) rfl (s_no ?_)) | refine r_op (o_loadR rfl rfl rfl (s_no ?_)) | refine r_op (o_loadR rfl (by assumption) rfl (s_no ?_))
  try dsimp only [putF, rd, Frame.get]
  refine r_nil (c_keep ?_)
  try dsimp only [List.map]
  try dsimp only [putF, rd, Frame.get]
  repeat (with_reducible first | refine c_seq ?_ | refine on_n ?_ | refine c_skip ?_ | refine c_block ?_ | refine on_r ?_ | refine c_ret ?_ | refine c_exit ?_ | refine on_e ?_ | refine ob_e ?_ | refine ob_n ?_ | refine ob_r ?_ | refine ob_x rfl ?_)
  refine c_ops ?_
  refine r_op (o_bin rfl (by first | trivial | (unfold inI64; omega)) (s_no ?_))
  try dsimp only [putF, rd, Frame.get]
  refine r_op (o_mov (s_no ?_))
  try dsimp only [putF, rd, Frame.get]
  refine r_nil (c_keep ?_)
  try dsimp only [List.map]
  try dsimp only [putF, rd, Frame.get]
  repeat (with_reducible first | refine c_seq ?_ | refine on_n ?_ | refine c_skip ?_ | refine c_block ?_ | refine on_r ?_ | refine c_ret ?_ | refine c_exit ?_ | refine on_e ?_ | refine ob_e ?_ | refine ob_n ?_ | refine ob_r ?_ | refine ob_x rfl ?_)
  refine c_dec rfl (fun h1 => ?_) (fun h1 => ?_)
  · subst h1
    repeat (with_reducible first | refine c_seq ?_ | refine on_n ?_ | refine c_skip ?_ | refine c_block ?_ | refine on_r ?_ | refine c_ret ?_ | refine c_exit ?_ | refine on_e ?_ | refine ob_e ?_ | refine ob_n ?_ | refine ob_r ?_ | refine ob_x rfl ?_)
    refine c_ops ?_
    refine r_op (o_mov (s_no ?_))
    try dsimp only [putF, rd, Frame.get]
    first | refine r_op (o_faddr rfl (s_no ?_)) | refine r_op (o_faddrR rfl (s_no ?_))
    try dsimp only [putF, rd, Frame.get]
    try simp only [Nat.zero_mul, Nat.mul_zero, Nat.mul_one, Nat.add_zero, Nat.zero_add, Nat.sub_zero, Nat.reduceAdd, Nat.reduceMul]
    first | refine r_op (o_load hS rfl rfl rfl rfl (s_no ?_)) | refine r_op (o_load hS rfl rfl (by assumption) rfl (s_no ?_)) | refine r_op (o_loadR rfl rfl rfl (s_no ?_)) | refine r_op (o_loadR rfl (by assumption) rfl (s_no ?_))
    try dsimp only [putF, rd, Frame.get]
    refine r_op (o_call ?_)
    dsimp only [List.map, putF, rd, Frame.get]
    refine HC.use (make_walk hCk hMd hUn hm i hk hx) hS ?_; rintro r m' S ⟨rfl, hm'⟩ hS
    refine s_no ?_
    try dsimp only [putF, rd, Frame.get]
    refine r_op (o_mov (s_no ?_))
    try dsimp only [putF, rd, Frame.get]
    refine r_nil (c_keep ?_)
    try dsimp only [List.map]
    try dsimp only [putF, rd, Frame.get]
    repeat (with_reducible first | refine c_seq ?_ | refine on_n ?_ | refine c_skip ?_ | refine c_block ?_ | refine on_r ?_ | refine c_ret ?_ | refine c_exit ?_ | refine on_e ?_ | refine ob_e ?_ | refine ob_n ?_ | refine ob_r ?_ | refine ob_x rfl ?_)
    refine c_ops ?_
    refine r_op (o_mov (s_no ?_))
    try dsimp only [putF, rd, Frame.get]
    refine r_op (o_bin rfl (by first | trivial | (unfold inI64; omega)) (s_no ?_))
    try dsimp only [putF, rd, Frame.get]
    refine r_nil (c_keep ?_)
    try dsimp only [List.map]
    try dsimp only [putF, rd, Frame.get]
    repeat (with_reducible first | refine c_seq ?_ | refine on_n ?_ | refine c_skip ?_ | refine c_block ?_ | refine on_r ?_ | refine c_ret ?_ | refine c_exit ?_ | refine on_e ?_ | refine ob_e ?_ | refine ob_n ?_ | refine ob_r ?_ | refine ob_x rfl ?_)
    refine c_ndec rfl (fun hc => ?_) (fun hc => ?_)
    · repeat (with_reducible first | refine c_seq ?_ | refine on_n ?_ | refine c_skip ?_ | refine c_block ?_ | refine on_r ?_ | refine c_ret ?_ | refine c_exit ?_ | refine on_e ?_ | refine ob_e ?_ | refine ob_n ?_ | refine ob_r ?_ | refine ob_x rfl ?_)
      refine c_ops ?_
      refine r_op (o_mov (s_no ?_))
      try dsimp only [putF, rd, Frame.get]
      refine r_op (o_mov (s_no ?_))
      try dsimp only [putF, rd, Frame.get]
      refine r_op (o_mov (s_no ?_))
      try dsimp only [putF, rd, Frame.get]
      refine r_nil (c_keep ?_)
      try dsimp only [List.map]
      try dsimp only [putF, rd, Frame.get]
      repeat (with_reducible first | refine c_seq ?_ | refine on_n ?_ | refine c_skip ?_ | refine c_block ?_ | refine on_r ?_ | refine c_ret ?_ | refine c_exit ?_ | refine on_e ?_ | refine ob_e ?_ | refine ob_n ?_ | refine ob_r ?_ | refine ob_x rfl ?_)
      dsimp only
      unfold __hist_History__Deed_r
      refine w_tmp (w_tmp (w_nil ?_))
      dsimp only [retV, Frame.get]
      by_cases hf : editFault h.text.length x = 0
      · rw [(deed_1' hf).1] at hc; exact absurd rfl hc
      · refine ⟨m', ⟨.nils, HM.nil, m', m', HM.nil, rfl, ?_, (HM.nil_add _).symm, (HM.add_nil _).symm, hm'⟩, hS.right⟩
        rw [(deed_1 hf).2]; exact SlR.nil
    · repeat (with_reducible first | refine c_seq ?_ | refine on_n ?_ | refine c_skip ?_ | refine c_block ?_ | refine on_r ?_ | refine c_ret ?_ | refine c_exit ?_ | refine on_e ?_ | refine ob_e ?_ | refine ob_n ?_ | refine ob_r ?_ | refine ob_x rfl ?_)
      refine c_ops ?_
      first | refine r_op (o_faddr rfl (s_no ?_)) | refine r_op (o_faddrR rfl (s_no ?_))
      try dsimp only [putF, rd, Frame.get]
      try simp only [Nat.zero_mul, Nat.mul_zero, Nat.mul_one, Nat.add_zero, Nat.zero_add, Nat.sub_zero, Nat.reduceAdd, Nat.reduceMul]
      first | refine r_op (o_load hS rfl rfl rfl rfl (s_no ?_)) | refine r_op (o_load hS rfl rfl (by assumption) rfl (s_no ?_)) | refine r_op (o_loadR rfl rfl rfl (s_no ?_)) | refine r_op (o_loadR rfl (by assumption) rfl (s_no ?_))
      try dsimp only [putF, rd, Frame.get]
      refine r_op (o_bsliceW hS rfl fun v26 l26 S hS => s_no ?_)
      try dsimp only [putF, rd, Frame.get, setCells, over]
      try dsimp only [putF, rd, Frame.get, setCells, over] at hS
      refine r_op (o_mov (s_no ?_))
      try dsimp only [putF, rd, Frame.get]
      refine r_op (o_mov (s_no ?_))
      try dsimp only [putF, rd, Frame.get]
      refine r_nil (c_keep ?_)
      try dsimp only [List.map]
      try dsimp only [putF, rd, Frame.get]
      repeat (with_reducible first | refine c_seq ?_ | refine on_n ?_ | refine c_skip ?_ | refine c_block ?_ | refine on_r ?_ | refine c_ret ?_ | refine c_exit ?_ | refine on_e ?_ | refine ob_e ?_ | refine ob_n ?_ | refine ob_r ?_ | refine ob_x rfl ?_)
      dsimp only
      unfold __hist_History__Deed_r
      refine w_tmp (w_tmp (w_nil ?_))
      dsimp only [retV, Frame.get]
      have hf : editFault h.text.length x = 0 := by
        apply Classical.byContradiction
        intro hf
        rw [(deed_1 hf).1] at hc; exact hf hc
      refine ⟨pt l26 (.row v26 3 [.int .i64 x.1, .int .i64 x.2.1, .str x.2.2]) + m', ⟨.sl l26 v26 0 1, pt l26 (.row v26 3 [.int .i64 x.1, .int .i64 x.2.1, .str x.2.2]), m', m', pt l26 (.row v26 3 [.int .i64 x.1, .int .i64 x.2.1, .str x.2.2]), by rw [hc], ?_, rfl, by ac_rfl, hm'⟩, hS.mid.eq (by ac_rfl)⟩
      rw [(deed_1' hf).2]; exact SlR.whole rfl
  obtain ⟨xu, xr, cu, cr, mu, gu, mr, gr, rfl, su, qu, sr, qr⟩ := hm
  repeat (with_reducible first | refine c_seq ?_ | refine on_n ?_ | refine c_skip ?_ | refine c_block ?_ | refine on_r ?_ | refine c_ret ?_ | refine c_exit ?_ | refine on_e ?_ | refine ob_e ?_ | refine ob_n ?_ | refine ob_r ?_ | refine ob_x rfl ?_)
  refine c_ops ?_
  refine r_op (o_bin rfl (by first | trivial | (unfold inI64; omega)) (s_no ?_))
  try dsimp only [putF, rd, Frame.get]
  refine r_op (o_mov (s_no ?_))
  try dsimp only [putF, rd, Frame.get]
  refine r_nil (c_keep ?_)
  try dsimp only [List.map]
  try dsimp only [putF, rd, Frame.get]
  repeat (with_reducible first | refine c_seq ?_ | refine on_n ?_ | refine c_skip ?_ | refine c_block ?_ | refine on_r ?_ | refine c_ret ?_ | refine c_exit ?_ | refine on_e ?_ | refine ob_e ?_ | refine ob_n ?_ | refine ob_r ?_ | refine ob_x rfl ?_)
  refine c_dec rfl (fun h2 => ?_) (fun h2 => ?_)
  · subst h2
    repeat (with_reducible first | refine c_seq ?_ | refine on_n ?_ | refine c_skip ?_ | refine c_block ?_ | refine on_r ?_ | refine c_ret ?_ | refine c_exit ?_ | refine on_e ?_ | refine ob_e ?_ | refine ob_n ?_ | refine ob_r ?_ | refine ob_x rfl ?_)
    refine c_ops ?_
    refine r_op (o_mov (s_no ?_))
    try dsimp only [putF, rd, Frame.get]
    first | refine r_op (o_nilchk rfl (s_no ?_)) | refine r_op (o_nilchkR rfl (s_no ?_)) | refine r_op (o_nilchkF rfl (s_no ?_)) | refine r_op (o_nilchkM rfl (s_no ?_))
    try dsimp only [putF, rd, Frame.get]
    first | refine r_op (o_faddr rfl (s_no ?_)) | refine r_op (o_faddrR rfl (s_no ?_))
    try dsimp only [putF, rd, Frame.get]
    try simp only [Nat.zero_mul, Nat.mul_zero, Nat.mul_one, Nat.add_zero, Nat.zero_add, Nat.sub_zero, Nat.reduceAdd, Nat.reduceMul]
    first | refine r_op (o_store hS rfl rfl rfl rfl (by simp) fun S hS => s_no ?_) | refine r_op (o_store hS rfl rfl rfl rfl (by assumption) fun S hS => s_no ?_)
    try dsimp only [putF, rd, Frame.get]
    try dsimp only [putF, rd, Frame.get, setCells, over] at hS
    refine r_nil (c_keep ?_)
    try dsimp only [List.map]
    try dsimp only [putF, rd, Frame.get]
    repeat (with_reducible first | refine c_seq ?_ | refine on_n ?_ | refine c_skip ?_ | refine c_block ?_ | refine on_r ?_ | refine c_ret ?_ | refine c_exit ?_ | refine on_e ?_ | refine ob_e ?_ | refine ob_n ?_ | refine ob_r ?_ | refine ob_x rfl ?_)
    refine c_ops ?_
    refine r_op (o_mov (s_no ?_))
    try dsimp only [putF, rd, Frame.get]
    refine r_op (o_mov (s_no ?_))
    try dsimp only [putF, rd, Frame.get]
    refine r_nil (c_keep ?_)
    try dsimp only [List.map]
    try dsimp only [putF, rd, Frame.get]
    repeat (with_reducible first | refine c_seq ?_ | refine on_n ?_ | refine c_skip ?_ | refine c_block ?_ | refine on_r ?_ | refine c_ret ?_ | refine c_exit ?_ | refine on_e ?_ | refine ob_e ?_ | refine ob_n ?_ | refine ob_r ?_ | refine ob_x rfl ?_)
    dsimp only
    unfold __hist_History__Deed_r
    refine w_tmp (w_tmp (w_nil ?_))
    dsimp only [retV, Frame.get]
    exact ⟨_, ⟨.nils, HM.nil, _, _, HM.nil, rfl, SlR.nil, (HM.nil_add _).symm, (HM.add_nil _).symm, xu, xr, cu, cr, mu, gu, mr, gr, rfl, su, qu, sr, qr⟩, hS.right⟩
  repeat (with_reducible first | refine c_seq ?_ | refine on_n ?_ | refine c_skip ?_ | refine c_block ?_ | refine on_r ?_ | refine c_ret ?_ | refine c_exit ?_ | refine on_e ?_ | refine ob_e ?_ | refine ob_n ?_ | refine ob_r ?_ | refine ob_x rfl ?_)
  refine c_ops ?_
  refine r_op (o_bin rfl (by first | trivial | (unfold inI64; omega)) (s_no ?_))
  try dsimp only [putF, rd, Frame.get]
  refine r_op (o_mov (s_no ?_))
  try dsimp only [putF, rd, Frame.get]
  refine r_nil (c_keep ?_)
  try dsimp only [List.map]
  try dsimp only [putF, rd, Frame.get]
  repeat (with_reducible first | refine c_seq ?_ | refine on_n ?_ | refine c_skip ?_ | refine c_block ?_ | refine on_r ?_ | refine c_ret ?_ | refine c_exit ?_ | refine on_e ?_ | refine ob_e ?_ | refine ob_n ?_ | refine ob_r ?_ | refine ob_x rfl ?_)
  refine c_dec rfl (fun h3 => ?_) (fun h3 => ?_)
  · subst h3
    by_cases hu : h.undo = []
    · have hz : lenF false xu = some 0 := by have := su.len; rw [hu] at this; exact this
      repeat (with_reducible first | refine c_seq ?_ | refine on_n ?_ | refine c_skip ?_ | refine c_block ?_ | refine on_r ?_ | refine c_ret ?_ | refine c_exit ?_ | refine on_e ?_ | refine ob_e ?_ | refine ob_n ?_ | refine ob_r ?_ | refine ob_x rfl ?_)
      refine c_ops ?_
      refine r_op (o_mov (s_no ?_))
      try dsimp only [putF, rd, Frame.get]
      first | refine r_op (o_nilchk rfl (s_no ?_)) | refine r_op (o_nilchkR rfl (s_no ?_)) | refine r_op (o_nilchkF rfl (s_no ?_)) | refine r_op (o_nilchkM rfl (s_no ?_))
      try dsimp only [putF, rd, Frame.get]
      first | refine r_op (o_faddr rfl (s_no ?_)) | refine r_op (o_faddrR rfl (s_no ?_))
      try dsimp only [putF, rd, Frame.get]
      try simp only [Nat.zero_mul, Nat.mul_zero, Nat.mul_one, Nat.add_zero, Nat.zero_add, Nat.sub_zero, Nat.reduceAdd, Nat.reduceMul]
      refine r_op (o_call ?_)
      dsimp only [List.map, putF, rd, Frame.get]
      refine HC.use (pop_none (c := 1) (cs := [.str h.text, xu, xr, .bool h.opn]) rfl hz) hS ?_; rintro r m' S ⟨rfl, rfl⟩ hS
      refine s_no ?_
      try dsimp only [putF, rd, Frame.get]
      refine r_op (o_mov (s_no ?_))
      try dsimp only [putF, rd, Frame.get]
      refine r_op (o_extract rfl rfl (s_no ?_))
      try dsimp only [putF, rd, Frame.get]
      refine r_op (o_extract rfl rfl (s_no ?_))
      try dsimp only [putF, rd, Frame.get]
      refine r_op (o_alloc hS fun v7 l7 S hS => s_no ?_)
      try dsimp only [putF, rd, Frame.get]
      first | refine r_op (o_store hS rfl rfl rfl rfl (by simp) fun S hS => s_no ?_) | refine r_op (o_store hS rfl rfl rfl rfl (by assumption) fun S hS => s_no ?_)
      try dsimp only [putF, rd, Frame.get]
      try dsimp only [putF, rd, Frame.get, setCells, over] at hS
      refine r_op (o_mov (s_no ?_))
      try dsimp only [putF, rd, Frame.get]
      refine r_nil (c_keep ?_)
      try dsimp only [List.map]
      try dsimp only [putF, rd, Frame.get]
      repeat (with_reducible first | refine c_seq ?_ | refine on_n ?_ | refine c_skip ?_ | refine c_block ?_ | refine on_r ?_ | refine c_ret ?_ | refine c_exit ?_ | refine on_e ?_ | refine ob_e ?_ | refine ob_n ?_ | refine ob_r ?_ | refine ob_x rfl ?_)
      refine c_ops ?_
      refine r_op (o_mov (s_no ?_))
      try dsimp only [putF, rd, Frame.get]
      refine r_op (o_not rfl (s_no ?_))
      try dsimp only [putF, rd, Frame.get]
      refine r_nil (c_keep ?_)
      try dsimp only [List.map]
      try dsimp only [putF, rd, Frame.get]
      repeat (with_reducible first | refine c_seq ?_ | refine on_n ?_ | refine c_skip ?_ | refine c_block ?_ | refine on_r ?_ | refine c_ret ?_ | refine c_exit ?_ | refine on_e ?_ | refine ob_e ?_ | refine ob_n ?_ | refine ob_r ?_ | refine ob_x rfl ?_)
      refine c_bool rfl (fun _ => ?_) (fun hb => by cases hb)
      repeat (with_reducible first | refine c_seq ?_ | refine on_n ?_ | refine c_skip ?_ | refine c_block ?_ | refine on_r ?_ | refine c_ret ?_ | refine c_exit ?_ | refine on_e ?_ | refine ob_e ?_ | refine ob_n ?_ | refine ob_r ?_ | refine ob_x rfl ?_)
      refine c_ops ?_
      refine r_op (o_mov (s_no ?_))
      try dsimp only [putF, rd, Frame.get]
      refine r_op (o_mov (s_no ?_))
      try dsimp only [putF, rd, Frame.get]
      refine r_nil (c_keep ?_)
      try dsimp only [List.map]
      try dsimp only [putF, rd, Frame.get]
      repeat (with_reducible first | refine c_seq ?_ | refine on_n ?_ | refine c_skip ?_ | refine c_block ?_ | refine on_r ?_ | refine c_ret ?_ | refine c_exit ?_ | refine on_e ?_ | refine ob_e ?_ | refine ob_n ?_ | refine ob_r ?_ | refine ob_x rfl ?_)
      dsimp only
      unfold __hist_History__Deed_r
      refine w_tmp (w_tmp (w_nil ?_))
      dsimp only [retV, Frame.get]
      exact ⟨_, DeedR.of (deed_3 hu).1 (deed_3 hu).2 SlR.nil (HM.nil_add _).symm (HM.add_nil _).symm ⟨xu, xr, cu, cr, mu, gu, mr, gr, rfl, su, qu, sr, qr⟩, hS.right.right⟩
    · obtain ⟨p, vu, off, A, B, xd, xb, n1, md, mb, rfl, rfl, hA, rfl, q1, sd, sb⟩ := last_grp hu su qu
      have hus : h.undo.dropLast.length ≤ 20 := by rw [List.length_dropLast]; omega
      have e3 : h.undo.reverse = lastG h.undo :: h.undo.dropLast.reverse := by
        conv => lhs; rw [split_last hu]
        simp
      have hp := i.past
      rw [e3] at hp
      have hG := i.grp (lastG h.undo) (List.mem_append_left _ (last_mem hu))
      have hx2 : takeN 2 ((A ++ xd :: xb :: B).drop (off + h.undo.dropLast.length * 2)) = some [xd, xb] := take2_mid hA
      have hU := (deed_3' (x := x) hu).2
      have hU1 := (deed_3' (x := x) hu).1
      generalize hus' : h.undo.dropLast = us at *
      generalize hg' : lastG h.undo = g at *
      repeat (with_reducible first | refine c_seq ?_ | refine on_n ?_ | refine c_skip ?_ | refine c_block ?_ | refine on_r ?_ | refine c_ret ?_ | refine c_exit ?_ | refine on_e ?_ | refine ob_e ?_ | refine ob_n ?_ | refine ob_r ?_ | refine ob_x rfl ?_)
      refine c_ops ?_
      refine r_op (o_mov (s_no ?_))
      try dsimp only [putF, rd, Frame.get]
      first | refine r_op (o_nilchk rfl (s_no ?_)) | refine r_op (o_nilchkR rfl (s_no ?_)) | refine r_op (o_nilchkF rfl (s_no ?_)) | refine r_op (o_nilchkM rfl (s_no ?_))
      try dsimp only [putF, rd, Frame.get]
      first | refine r_op (o_faddr rfl (s_no ?_)) | refine r_op (o_faddrR rfl (s_no ?_))
      try dsimp only [putF, rd, Frame.get]
      try simp only [Nat.zero_mul, Nat.mul_zero, Nat.mul_one, Nat.add_zero, Nat.zero_add, Nat.sub_zero, Nat.reduceAdd, Nat.reduceMul]
      refine r_op (o_call ?_)
      dsimp only [List.map, putF, rd, Frame.get]
      refine HC.use (pop_some (c := 1) (n := us.length) (cs := [.str h.text, .sl p vu off (us.length + 1), xr, .bool h.opn]) rfl hx2 (by simp) (by omega)) (hS.eq (m' := pt l3 (.row v3 0 [.int .i64 3, .int .i64 x.1, .int .i64 x.2.1, .str x.2.2]) + ((pt lh (.row vh 0 [.str h.text, .sl p vu off (us.length + 1), xr, .bool h.opn]) + pt p (.row vu 2 (A ++ xd :: xb :: B))) + (n1 + (md + mb) + (mr + gr)) + mf)) (by ac_rfl)) ?_; rintro r m' S ⟨rfl, rfl⟩ hS; dsimp only [setCells, over] at hS
      refine s_no ?_
      try dsimp only [putF, rd, Frame.get]
      refine r_op (o_mov (s_no ?_))
      try dsimp only [putF, rd, Frame.get]
      refine r_op (o_extract rfl rfl (s_no ?_))
      try dsimp only [putF, rd, Frame.get]
      refine r_op (o_extract rfl rfl (s_no ?_))
      try dsimp only [putF, rd, Frame.get]
      refine r_op (o_alloc hS fun v7 l7 S hS => s_no ?_)
      try dsimp only [putF, rd, Frame.get]
      first | refine r_op (o_store hS rfl rfl rfl rfl (by simp) fun S hS => s_no ?_) | refine r_op (o_store hS rfl rfl rfl rfl (by assumption) fun S hS => s_no ?_)
      try dsimp only [putF, rd, Frame.get]
      try dsimp only [putF, rd, Frame.get, setCells, over] at hS
      refine r_op (o_mov (s_no ?_))
      try dsimp only [putF, rd, Frame.get]
      refine r_nil (c_keep ?_)
      try dsimp only [List.map]
      try dsimp only [putF, rd, Frame.get]
      repeat (with_reducible first | refine c_seq ?_ | refine on_n ?_ | refine c_skip ?_ | refine c_block ?_ | refine on_r ?_ | refine c_ret ?_ | refine c_exit ?_ | refine on_e ?_ | refine ob_e ?_ | refine ob_n ?_ | refine ob_r ?_ | refine ob_x rfl ?_)
      refine c_ops ?_
      refine r_op (o_mov (s_no ?_))
      try dsimp only [putF, rd, Frame.get]
      refine r_op (o_not rfl (s_no ?_))
      try dsimp only [putF, rd, Frame.get]
      refine r_nil (c_keep ?_)
      try dsimp only [List.map]
      try dsimp only [putF, rd, Frame.get]
      repeat (with_reducible first | refine c_seq ?_ | refine on_n ?_ | refine c_skip ?_ | refine c_block ?_ | refine on_r ?_ | refine c_ret ?_ | refine c_exit ?_ | refine on_e ?_ | refine ob_e ?_ | refine ob_n ?_ | refine ob_r ?_ | refine ob_x rfl ?_)
      refine c_bool rfl (fun hb => by cases hb) (fun _ => ?_)
      repeat (with_reducible first | refine c_seq ?_ | refine on_n ?_ | refine c_skip ?_ | refine c_block ?_ | refine on_r ?_ | refine c_ret ?_ | refine c_exit ?_ | refine on_e ?_ | refine ob_e ?_ | refine ob_n ?_ | refine ob_r ?_ | refine ob_x rfl ?_)
      refine c_ops ?_
      refine r_op (o_newnil hS fun v9 l9 S hS => s_no ?_)
      try dsimp only [putF, rd, Frame.get]
      refine r_nil (c_keep ?_)
      try dsimp only [List.map]
      try dsimp only [putF, rd, Frame.get]
      repeat (with_reducible first | refine c_seq ?_ | refine on_n ?_ | refine c_skip ?_ | refine c_block ?_ | refine on_r ?_ | refine c_ret ?_ | refine c_exit ?_ | refine on_e ?_ | refine ob_e ?_ | refine ob_n ?_ | refine ob_r ?_ | refine ob_x rfl ?_)
      refine c_ops ?_
      first | refine r_op (o_faddr rfl (s_no ?_)) | refine r_op (o_faddrR rfl (s_no ?_))
      try dsimp only [putF, rd, Frame.get]
      try simp only [Nat.zero_mul, Nat.mul_zero, Nat.mul_one, Nat.add_zero, Nat.zero_add, Nat.sub_zero, Nat.reduceAdd, Nat.reduceMul]
      first | refine r_op (o_load hS rfl rfl rfl rfl (s_no ?_)) | refine r_op (o_load hS rfl rfl (by assumption) rfl (s_no ?_)) | refine r_op (o_loadR rfl rfl rfl (s_no ?_)) | refine r_op (o_loadR rfl (by assumption) rfl (s_no ?_))
      try dsimp only [putF, rd, Frame.get]
      refine r_op ?_
      refine o_len sb.len ?_
      refine s_no ?_
      try dsimp only [putF, rd, Frame.get]
      refine r_op (o_bin rfl (by first | trivial | (unfold inI64; omega)) (s_no ?_))
      try dsimp only [putF, rd, Frame.get]
      refine r_op (o_mov (s_no ?_))
      try dsimp only [putF, rd, Frame.get]
      refine r_nil (c_keep ?_)
      try dsimp only [List.map]
      try dsimp only [putF, rd, Frame.get]
      repeat (with_reducible first | refine c_seq ?_ | refine on_n ?_ | refine c_skip ?_ | refine c_block ?_ | refine on_r ?_ | refine c_ret ?_ | refine c_exit ?_ | refine on_e ?_ | refine ob_e ?_ | refine ob_n ?_ | refine ob_r ?_ | refine ob_x rfl ?_)
      have hS := hS.eq (m' := pt l9 (.row v9 3 []) + (pt lh (.row vh 0 [.str h.text, .sl p vu off us.length, xr, .bool h.opn]) + (mr + (mb + (pt l7 (.row v7 0 [xd, xb]) + (pt p (.row vu 2 (A ++ xd :: xb :: B)) + (n1 + (md + gr)) + mf + pt l3 (.row v3 0 [.int .i64 3, .int .i64 x.1, .int .i64 x.2.1, .str x.2.2]))))))) (by ac_rfl)
      have hy0 : SlR 3 (.sl l9 v9 0 0) (encEs (g.2.reverse.take 0)) 0 (pt l9 (.row v9 3 [])) := SlR.whole rfl
      refine c_loop (fun n xs S => ∃ (j : Nat) (y : AVal) (my : HM), xs = [y, .int .i64 ((g.2.length : Int) - 1 - (j : Int))] ∧ j ≤ g.2.length ∧ n = g.2.length - j ∧ SlR 3 y (encEs (g.2.reverse.take j)) j my ∧ Has S (my + (pt lh (.row vh 0 [.str h.text, .sl p vu off us.length, xr, .bool h.opn]) + (mr + (mb + (pt l7 (.row v7 0 [xd, xb]) + (pt p (.row vu 2 (A ++ xd :: xb :: B)) + (n1 + (md + gr)) + mf + pt l3 (.row v3 0 [.int .i64 3, .int .i64 x.1, .int .i64 x.2.1, .str x.2.2])))))))) g.2.length ⟨0, .sl l9 v9 0 0, pt l9 (.row v9 3 []), ?_, Nat.zero_le _, rfl, hy0, hS⟩ ?_
      · simp [Frame.get]
      clear hS hy0
      rintro n xs S hl' ⟨j, y, my, rfl, hj, rfl, hy, hS⟩
      dsimp only [zipF, List.map, Frame.get]
      repeat (with_reducible first | refine c_seq ?_ | refine on_n ?_ | refine c_skip ?_ | refine c_block ?_ | refine on_r ?_ | refine c_ret ?_ | refine c_exit ?_ | refine on_e ?_ | refine ob_e ?_ | refine ob_n ?_ | refine ob_r ?_ | refine ob_x rfl ?_)
      refine c_ops ?_
      refine r_op (o_mov (s_no ?_))
      try dsimp only [putF, rd, Frame.get]
      refine r_op (o_bin rfl (by first | trivial | (unfold inI64; omega)) (s_no ?_))
      try dsimp only [putF, rd, Frame.get]
      refine r_nil (c_keep ?_)
      try dsimp only [List.map]
      try dsimp only [putF, rd, Frame.get]
      repeat (with_reducible first | refine c_seq ?_ | refine on_n ?_ | refine c_skip ?_ | refine c_block ?_ | refine on_r ?_ | refine c_ret ?_ | refine c_exit ?_ | refine on_e ?_ | refine ob_e ?_ | refine ob_n ?_ | refine ob_r ?_ | refine ob_x rfl ?_)
      refine c_dec rfl (fun hlt => ?_) (fun hlt => ?_)
      · have hjl : j < g.2.length := by omega
        obtain ⟨e, he⟩ : ∃ e, g.2[g.2.length - 1 - j]? = some e := ⟨_, List.getElem?_eq_getElem (by omega)⟩
        have her : g.2.reverse[j]? = some e := by rw [List.getElem?_reverse (by omega)]; exact he
        obtain ⟨pb, vb, offb, cs, rfl, rfl, hle, hcs⟩ := sb.pos (by omega)
        have ht : takeN 3 (List.drop (offb + (g.2.length - 1 - j) * 3) cs) = some [.int .i64 e.1, .int .i64 e.2.1, .str e.2.2] := by
          rw [take_sub hle (show g.2.length - 1 - j < g.2.length by omega), ← hcs, enc_at he]
        repeat (with_reducible first | refine c_seq ?_ | refine on_n ?_ | refine c_skip ?_ | refine c_block ?_ | refine on_r ?_ | refine c_ret ?_ | refine c_exit ?_ | refine on_e ?_ | refine ob_e ?_ | refine ob_n ?_ | refine ob_r ?_ | refine ob_x rfl ?_)
        refine c_ops ?_
        refine r_op (o_mov (s_no ?_))
        try dsimp only [putF, rd, Frame.get]
        first | refine r_op (o_faddr rfl (s_no ?_)) | refine r_op (o_faddrR rfl (s_no ?_))
        try dsimp only [putF, rd, Frame.get]
        try simp only [Nat.zero_mul, Nat.mul_zero, Nat.mul_one, Nat.add_zero, Nat.zero_add, Nat.sub_zero, Nat.reduceAdd, Nat.reduceMul]
        first | refine r_op (o_load hS rfl rfl rfl rfl (s_no ?_)) | refine r_op (o_load hS rfl rfl (by assumption) rfl (s_no ?_)) | refine r_op (o_loadR rfl rfl rfl (s_no ?_)) | refine r_op (o_loadR rfl (by assumption) rfl (s_no ?_))
        try dsimp only [putF, rd, Frame.get]
        refine r_op (o_mov (s_no ?_))
        try dsimp only [putF, rd, Frame.get]
        refine r_op ?_
        rw [show ((g.2.length : Int) - 1 - (j : Int)) = ((g.2.length - 1 - j : Nat) : Int) by omega]; refine o_iaddr hS rfl rfl rfl (by omega) ?_
        refine s_no ?_
        try dsimp only [putF, rd, Frame.get]
        first | refine r_op (o_load hS rfl rfl rfl rfl (s_no ?_)) | refine r_op (o_load hS rfl rfl (by assumption) rfl (s_no ?_)) | refine r_op (o_loadR rfl rfl rfl (s_no ?_)) | refine r_op (o_loadR rfl (by assumption) rfl (s_no ?_))
        try dsimp only [putF, rd, Frame.get]
        refine r_op (o_bsliceR rfl (s_no ?_))
        try dsimp only [putF, rd, Frame.get, setCells, over]
        try dsimp only [putF, rd, Frame.get, setCells, over] at hS
        refine r_op ?_
        refine o_appendR hS rfl hy (SrcOf.one rfl) rfl (by omega) fun y' my' S hy' hS => ?_
        refine s_no ?_
        try dsimp only [putF, rd, Frame.get]
        refine r_op (o_mov (s_no ?_))
        try dsimp only [putF, rd, Frame.get]
        refine r_nil (c_keep ?_)
        try dsimp only [List.map]
        try dsimp only [putF, rd, Frame.get]
        repeat (with_reducible first | refine c_seq ?_ | refine on_n ?_ | refine c_skip ?_ | refine c_block ?_ | refine on_r ?_ | refine c_ret ?_ | refine c_exit ?_ | refine on_e ?_ | refine ob_e ?_ | refine ob_n ?_ | refine ob_r ?_ | refine ob_x rfl ?_)
        rw [show ((g.2.length - 1 - j : Nat) : Int) = (g.2.length : Int) - 1 - (j : Int) by omega]
        refine c_ops ?_
        refine r_op (o_mov (s_no ?_))
        try dsimp only [putF, rd, Frame.get]
        refine r_op (o_bin rfl (by first | trivial | (unfold inI64; omega)) (s_no ?_))
        try dsimp only [putF, rd, Frame.get]
        refine r_op (o_mov (s_no ?_))
        try dsimp only [putF, rd, Frame.get]
        refine r_nil (c_keep ?_)
        try dsimp only [List.map]
        try dsimp only [putF, rd, Frame.get]
        repeat (with_reducible first | refine c_seq ?_ | refine on_n ?_ | refine c_skip ?_ | refine c_block ?_ | refine on_r ?_ | refine c_ret ?_ | refine c_exit ?_ | refine on_e ?_ | refine ob_e ?_ | refine ob_n ?_ | refine ob_r ?_ | refine ob_x rfl ?_)
        refine ⟨g.2.length - (j + 1), by omega, j + 1, y', my', ?_, by omega, rfl, ?_, hS⟩
        · simp [Frame.get]; omega
        · rw [List.take_add_one, her]
          rw [show encEs (g.2.reverse.take j) ++ [.int .i64 e.1, .int .i64 e.2.1, .str e.2.2] = encEs (g.2.reverse.take j ++ [e]) from encEs_snoc _ _] at hy'
          exact hy'
      · obtain rfl : j = g.2.length := by omega
        rw [List.take_of_length_le (by simp)] at hy
        repeat (with_reducible first | refine c_seq ?_ | refine on_n ?_ | refine c_skip ?_ | refine c_block ?_ | refine on_r ?_ | refine c_ret ?_ | refine c_exit ?_ | refine on_e ?_ | refine ob_e ?_ | refine ob_n ?_ | refine ob_r ?_ | refine ob_x rfl ?_)
        refine c_opsD0 hS fun S hS => ?_
        refine d_zero ?_
        refine r_op (o_mov (s_no ?_))
        try dsimp only [putF, rd, Frame.get]
        refine r_op (o_mov (s_no ?_))
        try dsimp only [putF, rd, Frame.get]
        first | refine r_op (o_nilchk rfl (s_no ?_)) | refine r_op (o_nilchkR rfl (s_no ?_)) | refine r_op (o_nilchkF rfl (s_no ?_)) | refine r_op (o_nilchkM rfl (s_no ?_))
        try dsimp only [putF, rd, Frame.get]
        first | refine r_op (o_faddr rfl (s_no ?_)) | refine r_op (o_faddrR rfl (s_no ?_))
        try dsimp only [putF, rd, Frame.get]
        try simp only [Nat.zero_mul, Nat.mul_zero, Nat.mul_one, Nat.add_zero, Nat.zero_add, Nat.sub_zero, Nat.reduceAdd, Nat.reduceMul]
        first | refine r_op (o_load hS rfl rfl rfl rfl (s_no ?_)) | refine r_op (o_load hS rfl rfl (by assumption) rfl (s_no ?_)) | refine r_op (o_loadR rfl rfl rfl (s_no ?_)) | refine r_op (o_loadR rfl (by assumption) rfl (s_no ?_))
        try dsimp only [putF, rd, Frame.get]
        first | refine r_op (o_load hS rfl rfl rfl rfl (s_no ?_)) | refine r_op (o_load hS rfl rfl (by assumption) rfl (s_no ?_)) | refine r_op (o_loadR rfl rfl rfl (s_no ?_)) | refine r_op (o_loadR rfl (by assumption) rfl (s_no ?_))
        try dsimp only [putF, rd, Frame.get]
        refine r_op (o_bsliceR rfl (s_no ?_))
        try dsimp only [putF, rd, Frame.get, setCells, over]
        try dsimp only [putF, rd, Frame.get, setCells, over] at hS
        refine r_op ?_
        refine o_appendR hS rfl sr (SrcOf.one rfl) rfl (by omega) fun xr' mr' S sr' hS => ?_
        refine s_no ?_
        try dsimp only [putF, rd, Frame.get]
        first | refine r_op (o_nilchk rfl (s_no ?_)) | refine r_op (o_nilchkR rfl (s_no ?_)) | refine r_op (o_nilchkF rfl (s_no ?_)) | refine r_op (o_nilchkM rfl (s_no ?_))
        try dsimp only [putF, rd, Frame.get]
        first | refine r_op (o_faddr rfl (s_no ?_)) | refine r_op (o_faddrR rfl (s_no ?_))
        try dsimp only [putF, rd, Frame.get]
        try simp only [Nat.zero_mul, Nat.mul_zero, Nat.mul_one, Nat.add_zero, Nat.zero_add, Nat.sub_zero, Nat.reduceAdd, Nat.reduceMul]
        refine r_op ?_
        refine o_store hS rfl rfl sr'.cl rfl (by simp) fun S hS => ?_; (try dsimp only [putF, rd, Frame.get, setCells, over] at hS)
        refine s_no ?_
        try dsimp only [putF, rd, Frame.get]
        refine r_nil (c_keep ?_)
        try dsimp only [List.map]
        try dsimp only [putF, rd, Frame.get]
        repeat (with_reducible first | refine c_seq ?_ | refine on_n ?_ | refine c_skip ?_ | refine c_block ?_ | refine on_r ?_ | refine c_ret ?_ | refine c_exit ?_ | refine on_e ?_ | refine ob_e ?_ | refine ob_n ?_ | refine ob_r ?_ | refine ob_x rfl ?_)
        have hy : SlR 3 y (encEs g.2.reverse) g.2.reverse.length my := by rw [List.length_reverse]; exact hy
        refine c_ops ?_
        refine r_op (o_mov (s_no ?_))
        try dsimp only [putF, rd, Frame.get]
        refine r_op (o_mov (s_no ?_))
        try dsimp only [putF, rd, Frame.get]
        refine r_op (o_call ?_)
        dsimp only [List.map, putF, rd, Frame.get]
        refine HC.use (change_walk (a := .sl p vu off us.length) (b := xr') (c := .bool h.opn) hMd hy hp.1 (by rw [List.length_reverse]; omega)) (hS.eq (m' := (pt lh (.row vh 0 [.str h.text, .sl p vu off us.length, xr', .bool h.opn]) + my) + (mr' + (mb + (pt l7 (.row v7 0 [xd, xb]) + (pt p (.row vu 2 (A ++ xd :: xb :: B)) + (n1 + (md + gr)) + mf + pt l3 (.row v3 0 [.int .i64 3, .int .i64 x.1, .int .i64 x.2.1, .str x.2.2])))))) (by ac_rfl)) ?_; rintro r m' S ⟨rfl, rfl⟩ hS
        refine s_no ?_
        try dsimp only [putF, rd, Frame.get]
        refine r_op (o_mov (s_no ?_))
        try dsimp only [putF, rd, Frame.get]
        refine r_op (o_mov (s_no ?_))
        try dsimp only [putF, rd, Frame.get]
        refine r_nil (c_keep ?_)
        try dsimp only [List.map]
        try dsimp only [putF, rd, Frame.get]
        repeat (with_reducible first | refine c_seq ?_ | refine on_n ?_ | refine c_skip ?_ | refine c_block ?_ | refine on_r ?_ | refine c_ret ?_ | refine c_exit ?_ | refine on_e ?_ | refine ob_e ?_ | refine ob_n ?_ | refine ob_r ?_ | refine ob_x rfl ?_)
        dsimp only
        unfold __hist_History__Deed_r
        refine w_tmp (w_tmp (w_nil ?_))
        dsimp only [retV, Frame.get]
        refine ⟨my + (pt lh (.row vh 0 [.str (editLast h.text g.2.reverse), .sl p vu off us.length, xr', .bool false]) + (pt p (.row vu 2 (A ++ xd :: xb :: B)) + (n1 + (mr' + (gr + (md + mb)))))), DeedR.of hU1 hU hy rfl (Std.Commutative.comm _ _) ?_, (hS.eq (m' := (my + (pt lh (.row vh 0 [.str (editLast h.text g.2.reverse), .sl p vu off us.length, xr', .bool false]) + (pt p (.row vu 2 (A ++ xd :: xb :: B)) + (n1 + (mr' + (gr + (md + mb)))))) + mf) + (pt l7 (.row v7 0 [xd, xb]) + pt l3 (.row v3 0 [.int .i64 3, .int .i64 x.1, .int .i64 x.2.1, .str x.2.2]))) (by ac_rfl)).left⟩
        subst hg' hus'
        exact ⟨_, xr', _, _, _, _, _, _, rfl, front_grp hA, q1, by have := sr'; simpa [hUndo] using this, GrR.app qr (GrR.one.2 ⟨xd, xb, md, mb, rfl, rfl, sd, sb⟩)⟩
  repeat (with_reducible first | refine c_seq ?_ | refine on_n ?_ | refine c_skip ?_ | refine c_block ?_ | refine on_r ?_ | refine c_ret ?_ | refine c_exit ?_ | refine on_e ?_ | refine ob_e ?_ | refine ob_n ?_ | refine ob_r ?_ | refine ob_x rfl ?_)
  refine c_ops ?_
  refine r_op (o_bin rfl (by first | trivial | (unfold inI64; omega)) (s_no ?_))
  try dsimp only [putF, rd, Frame.get]
  refine r_op (o_mov (s_no ?_))
  try dsimp only [putF, rd, Frame.get]
  refine r_nil (c_keep ?_)
  try dsimp only [List.map]
  try dsimp only [putF, rd, Frame.get]
  repeat (with_reducible first | refine c_seq ?_ | refine on_n ?_ | refine c_skip ?_ | refine c_block ?_ | refine on_r ?_ | refine c_ret ?_ | refine c_exit ?_ | refine on_e ?_ | refine ob_e ?_ | refine ob_n ?_ | refine ob_r ?_ | refine ob_x rfl ?_)
  refine c_dec rfl (fun h4 => ?_) (fun h4 => ?_)
  · subst h4
    by_cases hu : h.redo = []
    · have hz : lenF false xr = some 0 := by have := sr.len; rw [hu] at this; exact this
      repeat (with_reducible first | refine c_seq ?_ | refine on_n ?_ | refine c_skip ?_ | refine c_block ?_ | refine on_r ?_ | refine c_ret ?_ | refine c_exit ?_ | refine on_e ?_ | refine ob_e ?_ | refine ob_n ?_ | refine ob_r ?_ | refine ob_x rfl ?_)
      refine c_ops ?_
      refine r_op (o_mov (s_no ?_))
      try dsimp only [putF, rd, Frame.get]
      first | refine r_op (o_nilchk rfl (s_no ?_)) | refine r_op (o_nilchkR rfl (s_no ?_)) | refine r_op (o_nilchkF rfl (s_no ?_)) | refine r_op (o_nilchkM rfl (s_no ?_))
      try dsimp only [putF, rd, Frame.get]
      first | refine r_op (o_faddr rfl (s_no ?_)) | refine r_op (o_faddrR rfl (s_no ?_))
      try dsimp only [putF, rd, Frame.get]
      try simp only [Nat.zero_mul, Nat.mul_zero, Nat.mul_one, Nat.add_zero, Nat.zero_add, Nat.sub_zero, Nat.reduceAdd, Nat.reduceMul]
      refine r_op (o_call ?_)
      dsimp only [List.map, putF, rd, Frame.get]
      refine HC.use (pop_none (c := 2) (cs := [.str h.text, xu, xr, .bool h.opn]) rfl hz) hS ?_; rintro r m' S ⟨rfl, rfl⟩ hS
      refine s_no ?_
      try dsimp only [putF, rd, Frame.get]
      refine r_op (o_mov (s_no ?_))
      try dsimp only [putF, rd, Frame.get]
      refine r_op (o_extract rfl rfl (s_no ?_))
      try dsimp only [putF, rd, Frame.get]
      refine r_op (o_extract rfl rfl (s_no ?_))
      try dsimp only [putF, rd, Frame.get]
      refine r_op (o_alloc hS fun v11 l11 S hS => s_no ?_)
      try dsimp only [putF, rd, Frame.get]
      first | refine r_op (o_store hS rfl rfl rfl rfl (by simp) fun S hS => s_no ?_) | refine r_op (o_store hS rfl rfl rfl rfl (by assumption) fun S hS => s_no ?_)
      try dsimp only [putF, rd, Frame.get]
      try dsimp only [putF, rd, Frame.get, setCells, over] at hS
      refine r_op (o_mov (s_no ?_))
      try dsimp only [putF, rd, Frame.get]
      refine r_nil (c_keep ?_)
      try dsimp only [List.map]
      try dsimp only [putF, rd, Frame.get]
      repeat (with_reducible first | refine c_seq ?_ | refine on_n ?_ | refine c_skip ?_ | refine c_block ?_ | refine on_r ?_ | refine c_ret ?_ | refine c_exit ?_ | refine on_e ?_ | refine ob_e ?_ | refine ob_n ?_ | refine ob_r ?_ | refine ob_x rfl ?_)
      refine c_ops ?_
      refine r_op (o_mov (s_no ?_))
      try dsimp only [putF, rd, Frame.get]
      refine r_op (o_not rfl (s_no ?_))
      try dsimp only [putF, rd, Frame.get]
      refine r_nil (c_keep ?_)
      try dsimp only [List.map]
      try dsimp only [putF, rd, Frame.get]
      repeat (with_reducible first | refine c_seq ?_ | refine on_n ?_ | refine c_skip ?_ | refine c_block ?_ | refine on_r ?_ | refine c_ret ?_ | refine c_exit ?_ | refine on_e ?_ | refine ob_e ?_ | refine ob_n ?_ | refine ob_r ?_ | refine ob_x rfl ?_)
      refine c_bool rfl (fun _ => ?_) (fun hb => by cases hb)
      repeat (with_reducible first | refine c_seq ?_ | refine on_n ?_ | refine c_skip ?_ | refine c_block ?_ | refine on_r ?_ | refine c_ret ?_ | refine c_exit ?_ | refine on_e ?_ | refine ob_e ?_ | refine ob_n ?_ | refine ob_r ?_ | refine ob_x rfl ?_)
      refine c_ops ?_
      refine r_op (o_mov (s_no ?_))
      try dsimp only [putF, rd, Frame.get]
      refine r_op (o_mov (s_no ?_))
      try dsimp only [putF, rd, Frame.get]
      refine r_nil (c_keep ?_)
      try dsimp only [List.map]
      try dsimp only [putF, rd, Frame.get]
      repeat (with_reducible first | refine c_seq ?_ | refine on_n ?_ | refine c_skip ?_ | refine c_block ?_ | refine on_r ?_ | refine c_ret ?_ | refine c_exit ?_ | refine on_e ?_ | refine ob_e ?_ | refine ob_n ?_ | refine ob_r ?_ | refine ob_x rfl ?_)
      dsimp only
      unfold __hist_History__Deed_r
      refine w_tmp (w_tmp (w_nil ?_))
      dsimp only [retV, Frame.get]
      exact ⟨_, DeedR.of (deed_4 hu).1 (deed_4 hu).2 SlR.nil (HM.nil_add _).symm (HM.add_nil _).symm ⟨xu, xr, cu, cr, mu, gu, mr, gr, rfl, su, qu, sr, qr⟩, hS.right.right⟩
    · obtain ⟨p, vu, off, A, B, xd, xb, n1, md, mb, rfl, rfl, hA, rfl, q1, sd, sb⟩ := last_grp hu sr qr
      have hus : h.redo.dropLast.length ≤ 20 := by rw [List.length_dropLast]; omega
      have e3 : h.redo.reverse = lastG h.redo :: h.redo.dropLast.reverse := by
        conv => lhs; rw [split_last hu]
        simp
      have hp := i.fut
      rw [e3] at hp
      have hG := i.grp (lastG h.redo) (List.mem_append_right _ (last_mem hu))
      have hx2 : takeN 2 ((A ++ xd :: xb :: B).drop (off + h.redo.dropLast.length * 2)) = some [xd, xb] := take2_mid hA
      have hU := (deed_4' (x := x) hu).2
      have hU1 := (deed_4' (x := x) hu).1
      generalize hus' : h.redo.dropLast = us at *
      generalize hg' : lastG h.redo = g at *
      repeat (with_reducible first | refine c_seq ?_ | refine on_n ?_ | refine c_skip ?_ | refine c_block ?_ | refine on_r ?_ | refine c_ret ?_ | refine c_exit ?_ | refine on_e ?_ | refine ob_e ?_ | refine ob_n ?_ | refine ob_r ?_ | refine ob_x rfl ?_)
      refine c_ops ?_
      refine r_op (o_mov (s_no ?_))
      try dsimp only [putF, rd, Frame.get]
      first | refine r_op (o_nilchk rfl (s_no ?_)) | refine r_op (o_nilchkR rfl (s_no ?_)) | refine r_op (o_nilchkF rfl (s_no ?_)) | refine r_op (o_nilchkM rfl (s_no ?_))
      try dsimp only [putF, rd, Frame.get]
      first | refine r_op (o_faddr rfl (s_no ?_)) | refine r_op (o_faddrR rfl (s_no ?_))
      try dsimp only [putF, rd, Frame.get]
      try simp only [Nat.zero_mul, Nat.mul_zero, Nat.mul_one, Nat.add_zero, Nat.zero_add, Nat.sub_zero, Nat.reduceAdd, Nat.reduceMul]
      refine r_op (o_call ?_)
      dsimp only [List.map, putF, rd, Frame.get]
      refine HC.use (pop_some (c := 2) (n := us.length) (cs := [.str h.text, xu, .sl p vu off (us.length + 1), .bool h.opn]) rfl hx2 (by simp) (by omega)) (hS.eq (m' := pt l3 (.row v3 0 [.int .i64 4, .int .i64 x.1, .int .i64 x.2.1, .str x.2.2]) + ((pt lh (.row vh 0 [.str h.text, xu, .sl p vu off (us.length + 1), .bool h.opn]) + pt p (.row vu 2 (A ++ xd :: xb :: B))) + (n1 + (md + mb) + (mu + gu)) + mf)) (by ac_rfl)) ?_; rintro r m' S ⟨rfl, rfl⟩ hS; dsimp only [setCells, over] at hS
      refine s_no ?_
      try dsimp only [putF, rd, Frame.get]
      refine r_op (o_mov (s_no ?_))
      try dsimp only [putF, rd, Frame.get]
      refine r_op (o_extract rfl rfl (s_no ?_))
      try dsimp only [putF, rd, Frame.get]
      refine r_op (o_extract rfl rfl (s_no ?_))
      try dsimp only [putF, rd, Frame.get]
      refine r_op (o_alloc hS fun v11 l11 S hS => s_no ?_)
      try dsimp only [putF, rd, Frame.get]
      first | refine r_op (o_store hS rfl rfl rfl rfl (by simp) fun S hS => s_no ?_) | refine r_op (o_store hS rfl rfl rfl rfl (by assumption) fun S hS => s_no ?_)
      try dsimp only [putF, rd, Frame.get]
      try dsimp only [putF, rd, Frame.get, setCells, over] at hS
      refine r_op (o_mov (s_no ?_))
      try dsimp only [putF, rd, Frame.get]
      refine r_nil (c_keep ?_)
      try dsimp only [List.map]
      try dsimp only [putF, rd, Frame.get]
      repeat (with_reducible first | refine c_seq ?_ | refine on_n ?_ | refine c_skip ?_ | refine c_block ?_ | refine on_r ?_ | refine c_ret ?_ | refine c_exit ?_ | refine on_e ?_ | refine ob_e ?_ | refine ob_n ?_ | refine ob_r ?_ | refine ob_x rfl ?_)
      refine c_ops ?_
      refine r_op (o_mov (s_no ?_))
      try dsimp only [putF, rd, Frame.get]
      refine r_op (o_not rfl (s_no ?_))
      try dsimp only [putF, rd, Frame.get]
      refine r_nil (c_keep ?_)
      try dsimp only [List.map]
      try dsimp only [putF, rd, Frame.get]
      repeat (with_reducible first | refine c_seq ?_ | refine on_n ?_ | refine c_skip ?_ | refine c_block ?_ | refine on_r ?_ | refine c_ret ?_ | refine c_exit ?_ | refine on_e ?_ | refine ob_e ?_ | refine ob_n ?_ | refine ob_r ?_ | refine ob_x rfl ?_)
      refine c_bool rfl (fun hb => by cases hb) (fun _ => ?_)
      repeat (with_reducible first | refine c_seq ?_ | refine on_n ?_ | refine c_skip ?_ | refine c_block ?_ | refine on_r ?_ | refine c_ret ?_ | refine c_exit ?_ | refine on_e ?_ | refine ob_e ?_ | refine ob_n ?_ | refine ob_r ?_ | refine ob_x rfl ?_)
      refine c_opsD0 hS fun S hS => ?_
      refine d_zero ?_
      refine r_op (o_mov (s_no ?_))
      try dsimp only [putF, rd, Frame.get]
      refine r_op (o_mov (s_no ?_))
      try dsimp only [putF, rd, Frame.get]
      first | refine r_op (o_nilchk rfl (s_no ?_)) | refine r_op (o_nilchkR rfl (s_no ?_)) | refine r_op (o_nilchkF rfl (s_no ?_)) | refine r_op (o_nilchkM rfl (s_no ?_))
      try dsimp only [putF, rd, Frame.get]
      first | refine r_op (o_faddr rfl (s_no ?_)) | refine r_op (o_faddrR rfl (s_no ?_))
      try dsimp only [putF, rd, Frame.get]
      try simp only [Nat.zero_mul, Nat.mul_zero, Nat.mul_one, Nat.add_zero, Nat.zero_add, Nat.sub_zero, Nat.reduceAdd, Nat.reduceMul]
      first | refine r_op (o_load hS rfl rfl rfl rfl (s_no ?_)) | refine r_op (o_load hS rfl rfl (by assumption) rfl (s_no ?_)) | refine r_op (o_loadR rfl rfl rfl (s_no ?_)) | refine r_op (o_loadR rfl (by assumption) rfl (s_no ?_))
      try dsimp only [putF, rd, Frame.get]
      first | refine r_op (o_load hS rfl rfl rfl rfl (s_no ?_)) | refine r_op (o_load hS rfl rfl (by assumption) rfl (s_no ?_)) | refine r_op (o_loadR rfl rfl rfl (s_no ?_)) | refine r_op (o_loadR rfl (by assumption) rfl (s_no ?_))
      try dsimp only [putF, rd, Frame.get]
      refine r_op (o_bsliceR rfl (s_no ?_))
      try dsimp only [putF, rd, Frame.get, setCells, over]
      try dsimp only [putF, rd, Frame.get, setCells, over] at hS
      refine r_op ?_
      refine o_appendR hS rfl su (SrcOf.one rfl) rfl (by omega) fun xu' mu' S su' hS => ?_
      refine s_no ?_
      try dsimp only [putF, rd, Frame.get]
      first | refine r_op (o_nilchk rfl (s_no ?_)) | refine r_op (o_nilchkR rfl (s_no ?_)) | refine r_op (o_nilchkF rfl (s_no ?_)) | refine r_op (o_nilchkM rfl (s_no ?_))
      try dsimp only [putF, rd, Frame.get]
      first | refine r_op (o_faddr rfl (s_no ?_)) | refine r_op (o_faddrR rfl (s_no ?_))
      try dsimp only [putF, rd, Frame.get]
      try simp only [Nat.zero_mul, Nat.mul_zero, Nat.mul_one, Nat.add_zero, Nat.zero_add, Nat.sub_zero, Nat.reduceAdd, Nat.reduceMul]
      refine r_op ?_
      refine o_store hS rfl rfl su'.cl rfl (by simp) fun S hS => ?_; (try dsimp only [putF, rd, Frame.get, setCells, over] at hS)
      refine s_no ?_
      try dsimp only [putF, rd, Frame.get]
      refine r_nil (c_keep ?_)
      try dsimp only [List.map]
      try dsimp only [putF, rd, Frame.get]
      repeat (with_reducible first | refine c_seq ?_ | refine on_n ?_ | refine c_skip ?_ | refine c_block ?_ | refine on_r ?_ | refine c_ret ?_ | refine c_exit ?_ | refine on_e ?_ | refine ob_e ?_ | refine ob_n ?_ | refine ob_r ?_ | refine ob_x rfl ?_)
      refine c_ops ?_
      refine r_op (o_mov (s_no ?_))
      try dsimp only [putF, rd, Frame.get]
      first | refine r_op (o_faddr rfl (s_no ?_)) | refine r_op (o_faddrR rfl (s_no ?_))
      try dsimp only [putF, rd, Frame.get]
      try simp only [Nat.zero_mul, Nat.mul_zero, Nat.mul_one, Nat.add_zero, Nat.zero_add, Nat.sub_zero, Nat.reduceAdd, Nat.reduceMul]
      first | refine r_op (o_load hS rfl rfl rfl rfl (s_no ?_)) | refine r_op (o_load hS rfl rfl (by assumption) rfl (s_no ?_)) | refine r_op (o_loadR rfl rfl rfl (s_no ?_)) | refine r_op (o_loadR rfl (by assumption) rfl (s_no ?_))
      try dsimp only [putF, rd, Frame.get]
      refine r_op (o_call ?_)
      dsimp only [List.map, putF, rd, Frame.get]
      refine HC.use (change_walk (a := xu') (b := .sl p vu off us.length) (c := .bool h.opn) hMd sd hp.1 (by omega)) (hS.eq (m' := (pt lh (.row vh 0 [.str h.text, xu', .sl p vu off us.length, .bool h.opn]) + md) + (mu' + (mb + (pt l11 (.row v11 0 [xd, xb]) + (pt p (.row vu 2 (A ++ xd :: xb :: B)) + (n1 + gu) + mf + pt l3 (.row v3 0 [.int .i64 4, .int .i64 x.1, .int .i64 x.2.1, .str x.2.2])))))) (by ac_rfl)) ?_; rintro r m' S ⟨hr, rfl⟩ hS; rw [hr]
      refine s_no ?_
      try dsimp only [putF, rd, Frame.get]
      refine r_op (o_mov (s_no ?_))
      try dsimp only [putF, rd, Frame.get]
      refine r_op (o_mov (s_no ?_))
      try dsimp only [putF, rd, Frame.get]
      refine r_nil (c_keep ?_)
      try dsimp only [List.map]
      try dsimp only [putF, rd, Frame.get]
      repeat (with_reducible first | refine c_seq ?_ | refine on_n ?_ | refine c_skip ?_ | refine c_block ?_ | refine on_r ?_ | refine c_ret ?_ | refine c_exit ?_ | refine on_e ?_ | refine ob_e ?_ | refine ob_n ?_ | refine ob_r ?_ | refine ob_x rfl ?_)
      dsimp only
      unfold __hist_History__Deed_r
      refine w_tmp (w_tmp (w_nil ?_))
      dsimp only [retV, Frame.get]
      refine ⟨md + (pt lh (.row vh 0 [.str (editLast h.text g.1), xu', .sl p vu off us.length, .bool false]) + (mu' + (gu + mb) + (pt p (.row vu 2 (A ++ xd :: xb :: B)) + n1))), DeedR.of (mh := pt lh (.row vh 0 [.str (editLast h.text g.1), xu', .sl p vu off us.length, .bool false]) + (mu' + (gu + (md + mb) + (pt p (.row vu 2 (A ++ xd :: xb :: B)) + n1)))) (X := HM.nil) hU1 hU sd rfl (by ac_rfl) ?_, (hS.eq (m' := (md + (pt lh (.row vh 0 [.str (editLast h.text g.1), xu', .sl p vu off us.length, .bool false]) + (mu' + (gu + mb) + (pt p (.row vu 2 (A ++ xd :: xb :: B)) + n1))) + mf) + (pt l11 (.row v11 0 [xd, xb]) + pt l3 (.row v3 0 [.int .i64 4, .int .i64 x.1, .int .i64 x.2.1, .str x.2.2]))) (by ac_rfl)).left⟩
      subst hg' hus'
      exact ⟨xu', _, _, _, _, _, _, _, rfl, by have := su'; simpa [hRedo] using this, GrR.app qu (GrR.one.2 ⟨xd, xb, md, mb, rfl, rfl, sd, sb⟩), front_grp hA, q1⟩
  · repeat (with_reducible first | refine c_seq ?_ | refine on_n ?_ | refine c_skip ?_ | refine c_block ?_ | refine on_r ?_ | refine c_ret ?_ | refine c_exit ?_ | refine on_e ?_ | refine ob_e ?_ | refine ob_n ?_ | refine ob_r ?_ | refine ob_x rfl ?_)
    refine c_ops ?_
    refine r_op (o_mov (s_no ?_))
    try dsimp only [putF, rd, Frame.get]
    refine r_op (o_mov (s_no ?_))
    try dsimp only [putF, rd, Frame.get]
    refine r_nil (c_keep ?_)
    try dsimp only [List.map]
    try dsimp only [putF, rd, Frame.get]
    repeat (with_reducible first | refine c_seq ?_ | refine on_n ?_ | refine c_skip ?_ | refine c_block ?_ | refine on_r ?_ | refine c_ret ?_ | refine c_exit ?_ | refine on_e ?_ | refine ob_e ?_ | refine ob_n ?_ | refine ob_r ?_ | refine ob_x rfl ?_)
    dsimp only
    unfold __hist_History__Deed_r
    refine w_tmp (w_tmp (w_nil ?_))
    dsimp only [retV, Frame.get]
    exact ⟨_, DeedR.of (deed_5 h1 h2 h3 h4).1 (deed_5 h1 h2 h3 h4).2 SlR.nil (HM.nil_add _).symm (HM.add_nil _).symm ⟨xu, xr, cu, cr, mu, gu, mr, gr, rfl, su, qu, sr, qr⟩, hS.right⟩
end Go.Proofs.Yteifemonokemgaa.H
