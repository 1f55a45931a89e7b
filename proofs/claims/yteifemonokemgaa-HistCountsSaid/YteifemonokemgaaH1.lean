/- The functions of a history, walked over parts of memory. Conditions: none. -/
import Derived.Test.YteifemonokemgaaGH
import Derived.Test.YteifemonokemgaaVh3
import Derived.Test.YteifemonokemgaaVpHI
set_option linter.unusedVariables false
set_option linter.unusedSimpArgs false
set_option maxRecDepth 100000
namespace Go.Proofs.Yteifemonokemgaa.H
open Go.Vc Go.Fu
def encE (e : Edit) : List AVal := [.int .i64 e.1, .int .i64 e.2.1, .str e.2.2]
def encEs (l : List Edit) : List AVal := l.flatMap encE
theorem encEs_snoc (l : List Edit) (e : Edit) : encEs l ++ encE e = encEs (l ++ [e]) := by simp [encEs]
theorem encEs_len : ∀ l : List Edit, (encEs l).length = l.length * 3
  | [] => rfl
  | e :: l => by simp only [encEs, List.flatMap_cons, List.length_append, List.length_cons]; have := encEs_len l; unfold encEs at this; rw [this]; simp [encE]; omega
def GrR : List Group → List AVal → HM → Prop
  | [], cs, m => cs = [] ∧ m = HM.nil
  | g :: gs, cs, m => ∃ x y cs' m1 m2 m3, cs = x :: y :: cs' ∧ m = m1 + m2 + m3 ∧ SlR 3 x (encEs g.1) g.1.length m1 ∧ SlR 3 y (encEs g.2) g.2.length m2 ∧ GrR gs cs' m3
theorem GrR.clen : ∀ {gs : List Group} {cs : List AVal} {m : HM}, GrR gs cs m → cs.length = gs.length * 2
  | [], cs, m, h => by rw [h.1]; rfl
  | g :: gs, cs, m, ⟨x, y, cs', m1, m2, m3, h1, _, _, _, h⟩ => by rw [h1]; have := GrR.clen h; simp; omega
theorem GrR.app : ∀ {gs gs' : List Group} {cs cs' : List AVal} {m m' : HM}, GrR gs cs m → GrR gs' cs' m' → GrR (gs ++ gs') (cs ++ cs') (m + m')
  | [], gs', cs, cs', m, m', h, h' => by rw [h.1, h.2, HM.nil_add]; exact h'
  | g :: gs, gs', cs, cs', m, m', ⟨x, y, c, m1, m2, m3, h1, h2, h3, h4, h⟩, h' => by
    refine ⟨x, y, c ++ cs', m1, m2, m3 + m', by rw [h1]; rfl, by rw [h2]; ac_rfl, h3, h4, GrR.app h h'⟩
theorem GrR.split : ∀ {gs gs' : List Group} {cs : List AVal} {m : HM}, GrR (gs ++ gs') cs m → ∃ c c' m1 m2, cs = c ++ c' ∧ m = m1 + m2 ∧ GrR gs c m1 ∧ GrR gs' c' m2
  | [], gs', cs, m, h => ⟨[], cs, HM.nil, m, rfl, (HM.nil_add _).symm, ⟨rfl, rfl⟩, h⟩
  | g :: gs, gs', cs, m, ⟨x, y, c, m1, m2, m3, h1, h2, h3, h4, h⟩ => by
    obtain ⟨c1, c2, n1, n2, e1, e2, k1, k2⟩ := GrR.split h
    exact ⟨x :: y :: c1, c2, m1 + m2 + n1, n2, by rw [h1, e1]; rfl, by rw [h2, e2]; ac_rfl, ⟨x, y, c1, m1, m2, n1, rfl, rfl, h3, h4, k1⟩, k2⟩
theorem GrR.one {g : Group} {cs : List AVal} {m : HM} : GrR [g] cs m ↔ ∃ x y m1 m2, cs = [x, y] ∧ m = m1 + m2 ∧ SlR 3 x (encEs g.1) g.1.length m1 ∧ SlR 3 y (encEs g.2) g.2.length m2 := by
  constructor
  · rintro ⟨x, y, c, m1, m2, m3, h1, h2, h3, h4, h5, h6⟩
    exact ⟨x, y, m1, m2, by rw [h1, h5], by rw [h2, h6, HM.add_nil], h3, h4⟩
  · rintro ⟨x, y, m1, m2, h1, h2, h3, h4⟩
    exact ⟨x, y, [], m1, m2, HM.nil, h1, by rw [h2, HM.add_nil], h3, h4, rfl, rfl⟩
/-- A history in memory. -/
def HistR (h : HistS) (lh vh : Nat) (m : HM) : Prop :=
  ∃ xu xr cu cr mu gu mr gr, m = pt lh (.row vh 0 [.str h.text, xu, xr, .bool h.opn]) + (mu + (gu + (mr + gr))) ∧ SlR 2 xu cu h.undo.length mu ∧ GrR h.undo cu gu ∧ SlR 2 xr cr h.redo.length mr ∧ GrR h.redo cr gr
theorem takeN_mid {A B : List AVal} {x : AVal} {n : Nat} (h : A.length = n) : takeN 1 ((A ++ x :: B).drop n) = some [x] := by subst h; simp [takeN]
theorem setCells_mid : ∀ {A B : List AVal} {x z : AVal} {n : Nat}, A.length = n → setCells (A ++ x :: B) n [z] = A ++ z :: B
  | [], B, x, z, n, h => by subst h; cases B <;> rfl
  | a :: A, B, x, z, n, h => by subst h; show a :: setCells (A ++ x :: B) A.length [z] = _; rw [setCells_mid rfl]; rfl
theorem ck_use (hC : Con Try.prog f_edit_Check edit_Check_ct) {size : Int} {e : Edit} {S : Store} {K : AVal → Store → Prop} (hs : inI64 size ∧ editFits e) (h : K (.int .i64 (editFault size e)) S) : ACalls Try.prog f_edit_Check [.int .i64 size, .agg [.int .i64 e.1, .int .i64 e.2.1, .str e.2.2]] S K := hC.plain (size, e) hs rfl h
theorem made_use (hC : Con Try.prog f_edit_Made edit_Made_ct) {s : Bytes} {e : Edit} {S : Store} {K : AVal → Store → Prop} (hs : editMay s.length e) (h : K (.str (editMade s e)) S) : ACalls Try.prog f_edit_Made [.str s, .agg [.int .i64 e.1, .int .i64 e.2.1, .str e.2.2]] S K := hC.plain (s, e) hs rfl h
theorem undo_use (hC : Con Try.prog f_edit_Undo edit_Undo_ct) {s : Bytes} {e : Edit} {S : Store} {K : AVal → Store → Prop} (hs : editMay s.length e) (h : K (.agg [.int .i64 (editUndo s e).1, .int .i64 (editUndo s e).2.1, .str (editUndo s e).2.2]) S) : ACalls Try.prog f_edit_Undo [.str s, .agg [.int .i64 e.1, .int .i64 e.2.1, .str e.2.2]] S K := hC.plain (s, e) hs rfl h

/-- The last group goes. -/
theorem pop_some {lh vh c p v off n : Nat} {cs cu : List AVal} {x1 x2 : AVal} (h1 : takeN 1 (cs.drop c) = some [.sl p v off (n + 1)]) (hx : takeN 2 (cu.drop (off + n * 2)) = some [x1, x2]) (hc : c + 1 ≤ cs.length) (hn : n < 1000000) :
    HC Try.prog f_hist_pop [.ptr lh vh c] (pt lh (.row vh 0 cs) + pt p (.row v 2 cu)) fun r m' => r = .tup [.agg [x1, x2], .bool true] ∧ m' = pt lh (.row vh 0 (setCells cs c [.sl p v off n])) + pt p (.row v 2 cu) := by
  intro S mf hS
  refine hist_pop_ok.out rfl ?_ (by simp [hist_pop_fi])
  unfold vcFun hist_pop_fi
  dsimp only
  unfold hist_pop_c
  dsimp only [argF]
  repeat (with_reducible first | refine c_seq ?_ | refine on_n ?_ | refine c_skip ?_ | refine c_block ?_ | refine on_r ?_ | refine c_ret ?_ | refine c_exit ?_ | refine on_e ?_ | refine ob_e ?_ | refine ob_n ?_ | refine ob_r ?_ | refine ob_x rfl ?_)
  refine c_ops ?_
  refine r_op (o_alloc hS fun v2 l2 S hS => s_no ?_)
  try dsimp only [putF, rd, Frame.get]
  refine r_op (o_mov (s_no ?_))
  try dsimp only [putF, rd, Frame.get]
  refine r_nil (c_keep ?_)
  try dsimp only [List.map]
  try dsimp only [putF, rd, Frame.get]
  repeat (with_reducible first | refine c_seq ?_ | refine on_n ?_ | refine c_skip ?_ | refine c_block ?_ | refine on_r ?_ | refine c_ret ?_ | refine c_exit ?_ | refine on_e ?_ | refine ob_e ?_ | refine ob_n ?_ | refine ob_r ?_ | refine ob_x rfl ?_)
  refine c_ops ?_
  refine r_op (o_mov (s_no ?_))
  try dsimp only [putF, rd, Frame.get]
  first | refine r_op (o_nilchk rfl (s_no ?_)) | refine r_op (o_nilchkR rfl (s_no ?_)) | refine r_op (o_nilchkF rfl (s_no ?_)) | refine r_op (o_nilchkM rfl (s_no ?_))
  try dsimp only [putF, rd, Frame.get]
  first | refine r_op (o_load hS rfl rfl rfl rfl (s_no ?_)) | refine r_op (o_load hS rfl rfl (by assumption) rfl (s_no ?_)) | refine r_op (o_loadR rfl rfl rfl (s_no ?_)) | refine r_op (o_loadR rfl (by assumption) rfl (s_no ?_))
  try dsimp only [putF, rd, Frame.get]
  refine r_op (o_len rfl (s_no ?_))
  try dsimp only [putF, rd, Frame.get]
  refine r_op (o_bin rfl (by first | trivial | (unfold inI64; omega)) (s_no ?_))
  try dsimp only [putF, rd, Frame.get]
  refine r_op (o_mov (s_no ?_))
  try dsimp only [putF, rd, Frame.get]
  refine r_nil (c_keep ?_)
  try dsimp only [List.map]
  try dsimp only [putF, rd, Frame.get]
  rw [show ((n + 1 : Nat) : Int) - 1 = (n : Int) by omega]
  repeat (with_reducible first | refine c_seq ?_ | refine on_n ?_ | refine c_skip ?_ | refine c_block ?_ | refine on_r ?_ | refine c_ret ?_ | refine c_exit ?_ | refine on_e ?_ | refine ob_e ?_ | refine ob_n ?_ | refine ob_r ?_ | refine ob_x rfl ?_)
  refine c_ops ?_
  refine r_op (o_mov (s_no ?_))
  try dsimp only [putF, rd, Frame.get]
  refine r_op (o_bin rfl (by first | trivial | (unfold inI64; omega)) (s_no ?_))
  try dsimp only [putF, rd, Frame.get]
  refine r_nil (c_keep ?_)
  try dsimp only [List.map]
  try dsimp only [putF, rd, Frame.get]
  repeat (with_reducible first | refine c_seq ?_ | refine on_n ?_ | refine c_skip ?_ | refine c_block ?_ | refine on_r ?_ | refine c_ret ?_ | refine c_exit ?_ | refine on_e ?_ | refine ob_e ?_ | refine ob_n ?_ | refine ob_r ?_ | refine ob_x rfl ?_)
  refine c_dec rfl (fun hc => ?_) (fun hc => ?_)
  · omega
  repeat (with_reducible first | refine c_seq ?_ | refine on_n ?_ | refine c_skip ?_ | refine c_block ?_ | refine on_r ?_ | refine c_ret ?_ | refine c_exit ?_ | refine on_e ?_ | refine ob_e ?_ | refine ob_n ?_ | refine ob_r ?_ | refine ob_x rfl ?_)
  refine c_ops ?_
  refine r_op (o_mov (s_no ?_))
  try dsimp only [putF, rd, Frame.get]
  first | refine r_op (o_nilchk rfl (s_no ?_)) | refine r_op (o_nilchkR rfl (s_no ?_)) | refine r_op (o_nilchkF rfl (s_no ?_)) | refine r_op (o_nilchkM rfl (s_no ?_))
  try dsimp only [putF, rd, Frame.get]
  first | refine r_op (o_load hS rfl rfl rfl rfl (s_no ?_)) | refine r_op (o_load hS rfl rfl (by assumption) rfl (s_no ?_)) | refine r_op (o_loadR rfl rfl rfl (s_no ?_)) | refine r_op (o_loadR rfl (by assumption) rfl (s_no ?_))
  try dsimp only [putF, rd, Frame.get]
  refine r_op (o_mov (s_no ?_))
  try dsimp only [putF, rd, Frame.get]
  first | refine r_op (o_iaddr hS rfl rfl rfl (by omega) (s_no ?_)) | refine r_op (o_iaddrR rfl rfl (by omega) (by assumption) (s_no ?_)) | refine r_op (o_iaddrA rfl rfl (by omega) (s_no ?_)) | refine r_op (o_iaddrAR rfl rfl (by omega) (s_no ?_))
  try dsimp only [putF, rd, Frame.get]
  try simp only [Nat.zero_mul, Nat.mul_zero, Nat.mul_one, Nat.add_zero, Nat.zero_add, Nat.sub_zero, Nat.reduceAdd, Nat.reduceMul]
  first | refine r_op (o_load hS rfl rfl rfl rfl (s_no ?_)) | refine r_op (o_load hS rfl rfl (by assumption) rfl (s_no ?_)) | refine r_op (o_loadR rfl rfl rfl (s_no ?_)) | refine r_op (o_loadR rfl (by assumption) rfl (s_no ?_))
  try dsimp only [putF, rd, Frame.get]
  refine r_op (o_alloc hS fun v5 l5 S hS => s_no ?_)
  try dsimp only [putF, rd, Frame.get]
  first | refine r_op (o_store hS rfl rfl rfl rfl (by simp) fun S hS => s_no ?_) | refine r_op (o_store hS rfl rfl rfl rfl (by assumption) fun S hS => s_no ?_)
  try dsimp only [putF, rd, Frame.get]
  try dsimp only [putF, rd, Frame.get, setCells, over] at hS
  refine r_nil (c_keep ?_)
  try dsimp only [List.map]
  try dsimp only [putF, rd, Frame.get]
  repeat (with_reducible first | refine c_seq ?_ | refine on_n ?_ | refine c_skip ?_ | refine c_block ?_ | refine on_r ?_ | refine c_ret ?_ | refine c_exit ?_ | refine on_e ?_ | refine ob_e ?_ | refine ob_n ?_ | refine ob_r ?_ | refine ob_x rfl ?_)
  refine c_ops ?_
  refine r_op (o_mov (s_no ?_))
  try dsimp only [putF, rd, Frame.get]
  refine r_op (o_mov (s_no ?_))
  try dsimp only [putF, rd, Frame.get]
  first | refine r_op (o_nilchk rfl (s_no ?_)) | refine r_op (o_nilchkR rfl (s_no ?_)) | refine r_op (o_nilchkF rfl (s_no ?_)) | refine r_op (o_nilchkM rfl (s_no ?_))
  try dsimp only [putF, rd, Frame.get]
  first | refine r_op (o_load hS rfl rfl rfl rfl (s_no ?_)) | refine r_op (o_load hS rfl rfl (by assumption) rfl (s_no ?_)) | refine r_op (o_loadR rfl rfl rfl (s_no ?_)) | refine r_op (o_loadR rfl (by assumption) rfl (s_no ?_))
  try dsimp only [putF, rd, Frame.get]
  refine r_op (o_mov (s_no ?_))
  try dsimp only [putF, rd, Frame.get]
  first | refine r_op (o_slice hS rfl rfl ⟨_, rfl⟩ rfl (by omega) (by omega) (s_no ?_)) | refine r_op (o_sliceR rfl ⟨_, rfl⟩ rfl (by omega) (by omega) (by assumption) (s_no ?_)) | refine r_op (o_sliceN rfl ⟨_, rfl⟩ rfl (s_no ?_))
  try dsimp only [putF, rd, Frame.get]
  try simp only [Nat.zero_mul, Nat.mul_zero, Nat.mul_one, Nat.add_zero, Nat.zero_add, Nat.sub_zero, Nat.reduceAdd, Nat.reduceMul]
  first | refine r_op (o_nilchk rfl (s_no ?_)) | refine r_op (o_nilchkR rfl (s_no ?_)) | refine r_op (o_nilchkF rfl (s_no ?_)) | refine r_op (o_nilchkM rfl (s_no ?_))
  try dsimp only [putF, rd, Frame.get]
  first | refine r_op (o_store hS rfl rfl rfl rfl (by simp) fun S hS => s_no ?_) | refine r_op (o_store hS rfl rfl rfl rfl (by assumption) fun S hS => s_no ?_)
  try dsimp only [putF, rd, Frame.get]
  try dsimp only [putF, rd, Frame.get, setCells, over] at hS
  refine r_nil (c_keep ?_)
  try dsimp only [List.map]
  try dsimp only [putF, rd, Frame.get]
  repeat (with_reducible first | refine c_seq ?_ | refine on_n ?_ | refine c_skip ?_ | refine c_block ?_ | refine on_r ?_ | refine c_ret ?_ | refine c_exit ?_ | refine on_e ?_ | refine ob_e ?_ | refine ob_n ?_ | refine ob_r ?_ | refine ob_x rfl ?_)
  refine c_ops ?_
  first | refine r_op (o_load hS rfl rfl rfl rfl (s_no ?_)) | refine r_op (o_load hS rfl rfl (by assumption) rfl (s_no ?_)) | refine r_op (o_loadR rfl rfl rfl (s_no ?_)) | refine r_op (o_loadR rfl (by assumption) rfl (s_no ?_))
  try dsimp only [putF, rd, Frame.get]
  first | refine r_op (o_store hS rfl rfl rfl rfl (by simp) fun S hS => s_no ?_) | refine r_op (o_store hS rfl rfl rfl rfl (by assumption) fun S hS => s_no ?_)
  try dsimp only [putF, rd, Frame.get]
  try dsimp only [putF, rd, Frame.get, setCells, over] at hS
  refine r_op (o_mov (s_no ?_))
  try dsimp only [putF, rd, Frame.get]
  refine r_nil (c_keep ?_)
  try dsimp only [List.map]
  try dsimp only [putF, rd, Frame.get]
  repeat (with_reducible first | refine c_seq ?_ | refine on_n ?_ | refine c_skip ?_ | refine c_block ?_ | refine on_r ?_ | refine c_ret ?_ | refine c_exit ?_ | refine on_e ?_ | refine ob_e ?_ | refine ob_n ?_ | refine ob_r ?_ | refine ob_x rfl ?_)
  dsimp only
  unfold hist_pop_r
  refine w_cell hS rfl rfl rfl rfl (w_tmp (w_nil ?_))
  dsimp only [retV, Frame.get]
  exact ⟨_, ⟨rfl, rfl⟩, hS.right.right⟩
theorem pop_none {lh vh c : Nat} {cs : List AVal} {x : AVal} (h1 : takeN 1 (cs.drop c) = some [x]) (hx : lenF false x = some 0) :
    HC Try.prog f_hist_pop [.ptr lh vh c] (pt lh (.row vh 0 cs)) fun r m' => r = .tup [.agg [.nils, .nils], .bool false] ∧ m' = pt lh (.row vh 0 cs) := by
  intro S mf hS
  refine hist_pop_ok.out rfl ?_ (by simp [hist_pop_fi])
  unfold vcFun hist_pop_fi
  dsimp only
  unfold hist_pop_c
  dsimp only [argF]
  repeat (with_reducible first | refine c_seq ?_ | refine on_n ?_ | refine c_skip ?_ | refine c_block ?_ | refine on_r ?_ | refine c_ret ?_ | refine c_exit ?_ | refine on_e ?_ | refine ob_e ?_ | refine ob_n ?_ | refine ob_r ?_ | refine ob_x rfl ?_)
  refine c_ops ?_
  refine r_op (o_alloc hS fun v2 l2 S hS => s_no ?_)
  try dsimp only [putF, rd, Frame.get]
  refine r_op (o_mov (s_no ?_))
  try dsimp only [putF, rd, Frame.get]
  refine r_nil (c_keep ?_)
  try dsimp only [List.map]
  try dsimp only [putF, rd, Frame.get]
  repeat (with_reducible first | refine c_seq ?_ | refine on_n ?_ | refine c_skip ?_ | refine c_block ?_ | refine on_r ?_ | refine c_ret ?_ | refine c_exit ?_ | refine on_e ?_ | refine ob_e ?_ | refine ob_n ?_ | refine ob_r ?_ | refine ob_x rfl ?_)
  refine c_ops ?_
  refine r_op (o_mov (s_no ?_))
  try dsimp only [putF, rd, Frame.get]
  first | refine r_op (o_nilchk rfl (s_no ?_)) | refine r_op (o_nilchkR rfl (s_no ?_)) | refine r_op (o_nilchkF rfl (s_no ?_)) | refine r_op (o_nilchkM rfl (s_no ?_))
  try dsimp only [putF, rd, Frame.get]
  first | refine r_op (o_load hS rfl rfl rfl rfl (s_no ?_)) | refine r_op (o_load hS rfl rfl (by assumption) rfl (s_no ?_)) | refine r_op (o_loadR rfl rfl rfl (s_no ?_)) | refine r_op (o_loadR rfl (by assumption) rfl (s_no ?_))
  try dsimp only [putF, rd, Frame.get]
  refine r_op ?_
  refine o_len hx ?_
  refine s_no ?_
  try dsimp only [putF, rd, Frame.get]
  refine r_op (o_bin rfl (by first | trivial | (unfold inI64; omega)) (s_no ?_))
  try dsimp only [putF, rd, Frame.get]
  refine r_op (o_mov (s_no ?_))
  try dsimp only [putF, rd, Frame.get]
  refine r_nil (c_keep ?_)
  try dsimp only [List.map]
  try dsimp only [putF, rd, Frame.get]
  repeat (with_reducible first | refine c_seq ?_ | refine on_n ?_ | refine c_skip ?_ | refine c_block ?_ | refine on_r ?_ | refine c_ret ?_ | refine c_exit ?_ | refine on_e ?_ | refine ob_e ?_ | refine ob_n ?_ | refine ob_r ?_ | refine ob_x rfl ?_)
  refine c_ops ?_
  refine r_op (o_mov (s_no ?_))
  try dsimp only [putF, rd, Frame.get]
  refine r_op (o_bin rfl (by first | trivial | (unfold inI64; omega)) (s_no ?_))
  try dsimp only [putF, rd, Frame.get]
  refine r_nil (c_keep ?_)
  try dsimp only [List.map]
  try dsimp only [putF, rd, Frame.get]
  repeat (with_reducible first | refine c_seq ?_ | refine on_n ?_ | refine c_skip ?_ | refine c_block ?_ | refine on_r ?_ | refine c_ret ?_ | refine c_exit ?_ | refine on_e ?_ | refine ob_e ?_ | refine ob_n ?_ | refine ob_r ?_ | refine ob_x rfl ?_)
  refine c_dec rfl (fun hc => ?_) (fun hc => ?_)
  · repeat (with_reducible first | refine c_seq ?_ | refine on_n ?_ | refine c_skip ?_ | refine c_block ?_ | refine on_r ?_ | refine c_ret ?_ | refine c_exit ?_ | refine on_e ?_ | refine ob_e ?_ | refine ob_n ?_ | refine ob_r ?_ | refine ob_x rfl ?_)
    refine c_ops ?_
    refine r_op (o_build rfl (s_no ?_))
    try dsimp only [putF, rd, Frame.get, setCells, over]
    first | refine r_op (o_store hS rfl rfl rfl rfl (by simp) fun S hS => s_no ?_) | refine r_op (o_store hS rfl rfl rfl rfl (by assumption) fun S hS => s_no ?_)
    try dsimp only [putF, rd, Frame.get]
    try dsimp only [putF, rd, Frame.get, setCells, over] at hS
    refine r_op (o_mov (s_no ?_))
    try dsimp only [putF, rd, Frame.get]
    refine r_nil (c_keep ?_)
    try dsimp only [List.map]
    try dsimp only [putF, rd, Frame.get]
    repeat (with_reducible first | refine c_seq ?_ | refine on_n ?_ | refine c_skip ?_ | refine c_block ?_ | refine on_r ?_ | refine c_ret ?_ | refine c_exit ?_ | refine on_e ?_ | refine ob_e ?_ | refine ob_n ?_ | refine ob_r ?_ | refine ob_x rfl ?_)
    dsimp only
    unfold hist_pop_r
    refine w_cell hS rfl rfl rfl rfl (w_tmp (w_nil ?_))
    dsimp only [retV, Frame.get]
    exact ⟨_, ⟨rfl, rfl⟩, hS.right⟩
  · omega
theorem takeN_mid1 {A B : List AVal} {w x : AVal} {n : Nat} (h : A.length = n) : takeN 1 ((A ++ w :: x :: B).drop (n + 1)) = some [x] := by
  have := takeN_mid (A := A ++ [w]) (B := B) (x := x) (n := n + 1) (by simp [h])
  simpa using this
theorem setCells_mid1 {A B : List AVal} {w x z : AVal} {n : Nat} (h : A.length = n) : setCells (A ++ w :: x :: B) (n + 1) [z] = A ++ w :: z :: B := by
  have := setCells_mid (A := A ++ [w]) (B := B) (x := x) (z := z) (n := n + 1) (by simp [h])
  simpa using this
theorem subL_mid {A B : List AVal} {x y : AVal} {off a : Nat} (h : A.length = off + a) : subL (A ++ x :: y :: B) off (a + 2) = A.drop off ++ [x, y] := by
  unfold subL
  rw [List.drop_append_of_le_length (by omega)]
  have e : (A.drop off).length = a := by rw [List.length_drop]; omega
  rw [List.take_append, e, show a + 2 - a = 2 by omega, List.take_of_length_le (by omega)]
  rfl
/-- The last two cells of a slice, in their row. -/
theorem split_cells {cs c1 : List AVal} {x y : AVal} {off a : Nat} (hle : off + (a + 2) ≤ cs.length) (h : c1 ++ [x, y] = subL cs off (a + 2)) (hc : c1.length = a) : ∃ A B, cs = A ++ x :: y :: B ∧ A.length = off + a ∧ c1 = A.drop off := by
  have e : cs = cs.take off ++ (subL cs off (a + 2) ++ cs.drop (off + (a + 2))) := by
    unfold subL
    conv => lhs; rw [← List.take_append_drop off cs, ← List.take_append_drop (a + 2) (cs.drop off), List.drop_drop]
  refine ⟨cs.take off ++ c1, cs.drop (off + (a + 2)), ?_, ?_, ?_⟩
  · rw [← h] at e
    conv => lhs; rw [e]
    simp
  · rw [List.length_append, List.length_take, hc]; omega
  · rw [List.drop_append_of_le_length (by rw [List.length_take]; omega), List.drop_of_length_le (by rw [List.length_take]; omega)]; rfl
theorem hOpen_ne {k : Nat} {h : HistS} (i : HInv k h) : hOpen h ≠ [] := by
  unfold hOpen
  split
  · rename_i c; exact i.opn c
  · unfold trim20
    split
    · rename_i c; intro e; have := congrArg List.length e; rw [List.length_drop] at this; simp only [List.length_append, List.length_singleton, List.length_nil] at this c; omega
    · simp
theorem hOpen_len {k : Nat} {h : HistS} (i : HInv k h) : (hOpen h).length ≤ 21 := by
  have := i.all
  unfold hOpen
  split
  · omega
  · unfold trim20
    split
    · simp; omega
    · simp; omega
theorem hOpen_grp {k : Nat} {h : HistS} (i : HInv k h) : ∀ g ∈ hOpen h, g.1.length ≤ k ∧ g.2.length ≤ k := fun g hg => by
  unfold hOpen at hg
  split at hg
  · exact i.grp g (List.mem_append_left _ hg)
  · have : g ∈ h.undo ++ [([], [])] := by
      unfold trim20 at hg
      split at hg
      · exact List.mem_of_mem_drop hg
      · exact hg
    simp at this
    rcases this with this | rfl
    · exact i.grp g (List.mem_append_left _ this)
    · simp

theorem make_walk (hCk : Con Try.prog f_edit_Check edit_Check_ct) (hMd : Con Try.prog f_edit_Made edit_Made_ct) (hUn : Con Try.prog f_edit_Undo edit_Undo_ct) {h : HistS} {lh vh k : Nat} {m : HM} {x : Edit} (hm : HistR h lh vh m) (i : HInv k h) (hk : k ≤ 1000) (hx : editFits x) :
    HC Try.prog f___hist_History__make [.ptr lh vh 0, .agg [.int .i64 x.1, .int .i64 x.2.1, .str x.2.2]] m fun r m' => r = .int .i64 (hDeed h (1, x)).2 ∧ HistR (hDeed h (1, x)).1 lh vh m' := by
  intro S mf hS
  have il := i.len
  have ia := i.all
  obtain ⟨xu, xr, cu, cr, mu, gu, mr, gr, rfl, su, qu, sr, qr⟩ := hm
  refine __hist_History__make_ok.out rfl ?_ (by simp [__hist_History__make_fi])
  unfold vcFun __hist_History__make_fi
  dsimp only
  unfold __hist_History__make_c
  dsimp only [argF]
  repeat (with_reducible first | refine c_seq ?_ | refine on_n ?_ | refine c_skip ?_ | refine c_block ?_ | refine on_r ?_ | refine c_ret ?_ | refine c_exit ?_ | refine on_e ?_ | refine ob_e ?_ | refine ob_n ?_ | refine ob_r ?_ | refine ob_x rfl ?_)
  refine c_ops ?_
  refine r_op (o_box hS rfl fun v3 l3 S hS => s_no ?_)
  try dsimp only [putF, rd, Frame.get]
  try dsimp only [putF, rd, Frame.get, setCells, over] at hS
  refine r_op (o_mov (s_no ?_))
  try dsimp only [putF, rd, Frame.get]
  refine r_nil (c_keep ?_)
  try dsimp only [List.map]
  try dsimp only [putF, rd, Frame.get]
  repeat (with_reducible first | refine c_seq ?_ | refine on_n ?_ | refine c_skip ?_ | refine c_block ?_ | refine on_r ?_ | refine c_ret ?_ | refine c_exit ?_ | refine on_e ?_ | refine ob_e ?_ | refine ob_n ?_ | refine ob_r ?_ | refine ob_x rfl ?_)
  refine c_opsD0 hS fun S hS => ?_
  refine d_zero ?_
  refine r_op (o_mov (s_no ?_))
  try dsimp only [putF, rd, Frame.get]
  first | refine r_op (o_nilchk rfl (s_no ?_)) | refine r_op (o_nilchkR rfl (s_no ?_)) | refine r_op (o_nilchkF rfl (s_no ?_)) | refine r_op (o_nilchkM rfl (s_no ?_))
  try dsimp only [putF, rd, Frame.get]
  first | refine r_op (o_faddr rfl (s_no ?_)) | refine r_op (o_faddrR rfl (s_no ?_))
  try dsimp only [putF, rd, Frame.get]
  try simp only [Nat.zero_mul, Nat.mul_zero, Nat.mul_one, Nat.add_zero, Nat.zero_add, Nat.sub_zero, Nat.reduceAdd, Nat.reduceMul]
  first | refine r_op (o_load hS rfl rfl rfl rfl (s_no ?_)) | refine r_op (o_load hS rfl rfl (by assumption) rfl (s_no ?_)) | refine r_op (o_loadR rfl rfl rfl (s_no ?_)) | refine r_op (o_loadR rfl (by assumption) rfl (s_no ?_))
  try dsimp only [putF, rd, Frame.get]
  refine r_op (o_len rfl (s_no ?_))
  try dsimp only [putF, rd, Frame.get]
  first | refine r_op (o_load hS rfl rfl rfl rfl (s_no ?_)) | refine r_op (o_load hS rfl rfl (by assumption) rfl (s_no ?_)) | refine r_op (o_loadR rfl rfl rfl (s_no ?_)) | refine r_op (o_loadR rfl (by assumption) rfl (s_no ?_))
  try dsimp only [putF, rd, Frame.get]
  refine r_op (o_call ?_)
  dsimp only [List.map, putF, rd, Frame.get]
  refine ck_use hCk (size := h.text.length) (e := x) ⟨by unfold inI64; omega, hx⟩ ?_
  refine s_no ?_
  try dsimp only [putF, rd, Frame.get]
  refine r_op (o_mov (s_no ?_))
  try dsimp only [putF, rd, Frame.get]
  refine r_nil (c_keep ?_)
  try dsimp only [List.map]
  try dsimp only [putF, rd, Frame.get]
  repeat (with_reducible first | refine c_seq ?_ | refine on_n ?_ | refine c_skip ?_ | refine c_block ?_ | refine on_r ?_ | refine c_ret ?_ | refine c_exit ?_ | refine on_e ?_ | refine ob_e ?_ | refine ob_n ?_ | refine ob_r ?_ | refine ob_x rfl ?_)
  refine c_ops ?_
  refine r_op (o_mov (s_no ?_))
  try dsimp only [putF, rd, Frame.get]
  refine r_op (o_bin rfl (by first | trivial | (unfold inI64; omega)) (s_no ?_))
  try dsimp only [putF, rd, Frame.get]
  refine r_nil (c_keep ?_)
  try dsimp only [List.map]
  try dsimp only [putF, rd, Frame.get]
  repeat (with_reducible first | refine c_seq ?_ | refine on_n ?_ | refine c_skip ?_ | refine c_block ?_ | refine on_r ?_ | refine c_ret ?_ | refine c_exit ?_ | refine on_e ?_ | refine ob_e ?_ | refine ob_n ?_ | refine ob_r ?_ | refine ob_x rfl ?_)
  refine c_ndec rfl (fun hc => ?_) (fun hc => ?_)
  · repeat (with_reducible first | refine c_seq ?_ | refine on_n ?_ | refine c_skip ?_ | refine c_block ?_ | refine on_r ?_ | refine c_ret ?_ | refine c_exit ?_ | refine on_e ?_ | refine ob_e ?_ | refine ob_n ?_ | refine ob_r ?_ | refine ob_x rfl ?_)
    refine c_ops ?_
    refine r_op (o_mov (s_no ?_))
    try dsimp only [putF, rd, Frame.get]
    refine r_op (o_mov (s_no ?_))
    try dsimp only [putF, rd, Frame.get]
    refine r_nil (c_keep ?_)
    try dsimp only [List.map]
    try dsimp only [putF, rd, Frame.get]
    repeat (with_reducible first | refine c_seq ?_ | refine on_n ?_ | refine c_skip ?_ | refine c_block ?_ | refine on_r ?_ | refine c_ret ?_ | refine c_exit ?_ | refine on_e ?_ | refine ob_e ?_ | refine ob_n ?_ | refine ob_r ?_ | refine ob_x rfl ?_)
    dsimp only
    unfold __hist_History__make_r
    refine w_tmp (w_nil ?_)
    dsimp only [retV, Frame.get]
    have e : hDeed h (1, x) = (h, editFault h.text.length x) := by unfold hDeed; rw [if_pos rfl, if_pos hc]
    rw [e]
    exact ⟨_, ⟨rfl, xu, xr, cu, cr, mu, gu, mr, gr, rfl, su, qu, sr, qr⟩, hS.right⟩
  have hmay : editMay h.text.length x := hc
  have hde : hDeed h (1, x) = (hMake h x, 0) := by unfold hDeed; rw [if_pos rfl, if_neg (by simpa using hc)]
  rw [hde]
  repeat (with_reducible first | refine c_seq ?_ | refine on_n ?_ | refine c_skip ?_ | refine c_block ?_ | refine on_r ?_ | refine c_ret ?_ | refine c_exit ?_ | refine on_e ?_ | refine ob_e ?_ | refine ob_n ?_ | refine ob_r ?_ | refine ob_x rfl ?_)
  refine c_join fun K hK => ?_
  have rest : ∀ (xu : AVal) (cu : List AVal) (mu gu : HM) (S : Store), SlR 2 xu cu (hOpen h).length mu → GrR (hOpen h) cu gu →
      Has S (pt l3 (.row v3 0 [.int .i64 x.1, .int .i64 x.2.1, .str x.2.2]) + (pt lh (.row vh 0 [.str h.text, xu, xr, .bool true]) + (mu + (gu + (mr + gr))) + mf)) → K [] S := by
    intro xu cu mu gu S su qu hS
    refine hK _ _ rfl ?_
    obtain ⟨us, g, hug⟩ : ∃ us g, hOpen h = us ++ [g] := ⟨_, _, split_last (hOpen_ne i)⟩
    have hL : (us ++ [g]).length = us.length + 1 := by simp
    have hL2 := hOpen_len i
    have hG := hOpen_grp i g (by rw [hug]; simp)
    rw [hug] at su qu hL2
    obtain ⟨c1, c2, n1, n2, rfl, rfl, q1, q2⟩ := GrR.split qu
    obtain ⟨xd, xb, md, mb, rfl, rfl, sd, sb⟩ := GrR.one.1 q2
    obtain ⟨p, vu, off, cs, rfl, rfl, hle, hcs⟩ := su.pos (by omega)
    rw [show (us ++ [g]).length * 2 = us.length * 2 + 2 by omega] at hle hcs
    obtain ⟨A, B, rfl, hA, rfl⟩ := split_cells hle hcs q1.clen
    clear hle hcs su qu q2
    dsimp only [zipF, List.map, Frame.get]
    repeat (with_reducible first | refine c_seq ?_ | refine on_n ?_ | refine c_skip ?_ | refine c_block ?_ | refine on_r ?_ | refine c_ret ?_ | refine c_exit ?_ | refine on_e ?_ | refine ob_e ?_ | refine ob_n ?_ | refine ob_r ?_ | refine ob_x rfl ?_)
    refine c_opsD0 hS fun S hS => ?_
    refine d_zero ?_
    refine r_op (o_mov (s_no ?_))
    try dsimp only [putF, rd, Frame.get]
    first | refine r_op (o_nilchk rfl (s_no ?_)) | refine r_op (o_nilchkR rfl (s_no ?_)) | refine r_op (o_nilchkF rfl (s_no ?_)) | refine r_op (o_nilchkM rfl (s_no ?_))
    try dsimp only [putF, rd, Frame.get]
    first | refine r_op (o_faddr rfl (s_no ?_)) | refine r_op (o_faddrR rfl (s_no ?_))
    try dsimp only [putF, rd, Frame.get]
    try simp only [Nat.zero_mul, Nat.mul_zero, Nat.mul_one, Nat.add_zero, Nat.zero_add, Nat.sub_zero, Nat.reduceAdd, Nat.reduceMul]
    first | refine r_op (o_load hS rfl rfl rfl rfl (s_no ?_)) | refine r_op (o_load hS rfl rfl (by assumption) rfl (s_no ?_)) | refine r_op (o_loadR rfl rfl rfl (s_no ?_)) | refine r_op (o_loadR rfl (by assumption) rfl (s_no ?_))
    try dsimp only [putF, rd, Frame.get]
    refine r_op (o_mov (s_no ?_))
    try dsimp only [putF, rd, Frame.get]
    first | refine r_op (o_nilchk rfl (s_no ?_)) | refine r_op (o_nilchkR rfl (s_no ?_)) | refine r_op (o_nilchkF rfl (s_no ?_)) | refine r_op (o_nilchkM rfl (s_no ?_))
    try dsimp only [putF, rd, Frame.get]
    first | refine r_op (o_faddr rfl (s_no ?_)) | refine r_op (o_faddrR rfl (s_no ?_))
    try dsimp only [putF, rd, Frame.get]
    try simp only [Nat.zero_mul, Nat.mul_zero, Nat.mul_one, Nat.add_zero, Nat.zero_add, Nat.sub_zero, Nat.reduceAdd, Nat.reduceMul]
    first | refine r_op (o_load hS rfl rfl rfl rfl (s_no ?_)) | refine r_op (o_load hS rfl rfl (by assumption) rfl (s_no ?_)) | refine r_op (o_loadR rfl rfl rfl (s_no ?_)) | refine r_op (o_loadR rfl (by assumption) rfl (s_no ?_))
    try dsimp only [putF, rd, Frame.get]
    refine r_op (o_len rfl (s_no ?_))
    try dsimp only [putF, rd, Frame.get]
    refine r_op (o_bin rfl (by first | trivial | (unfold inI64; omega)) (s_no ?_))
    try dsimp only [putF, rd, Frame.get]
    refine r_op ?_
    rw [show (((us ++ [g]).length : Nat) : Int) - 1 = (us.length : Int) by omega]; refine o_iaddr hS rfl rfl rfl (by omega) ?_
    refine s_no ?_
    try dsimp only [putF, rd, Frame.get]
    refine r_op (o_mov (s_no ?_))
    try dsimp only [putF, rd, Frame.get]
    refine r_nil (c_keep ?_)
    try dsimp only [List.map]
    try dsimp only [putF, rd, Frame.get]
    rw [← hA]
    repeat (with_reducible first | refine c_seq ?_ | refine on_n ?_ | refine c_skip ?_ | refine c_block ?_ | refine on_r ?_ | refine c_ret ?_ | refine c_exit ?_ | refine on_e ?_ | refine ob_e ?_ | refine ob_n ?_ | refine ob_r ?_ | refine ob_x rfl ?_)
    have ht1 : takeN 1 (List.drop A.length (A ++ xd :: xb :: B)) = some [xd] := takeN_mid rfl
    refine c_opsD0 hS fun S hS => ?_
    refine d_zero ?_
    refine r_op (o_mov (s_no ?_))
    try dsimp only [putF, rd, Frame.get]
    refine r_op (o_mov (s_no ?_))
    try dsimp only [putF, rd, Frame.get]
    first | refine r_op (o_nilchk rfl (s_no ?_)) | refine r_op (o_nilchkR rfl (s_no ?_)) | refine r_op (o_nilchkF rfl (s_no ?_)) | refine r_op (o_nilchkM rfl (s_no ?_))
    try dsimp only [putF, rd, Frame.get]
    first | refine r_op (o_faddr rfl (s_no ?_)) | refine r_op (o_faddrR rfl (s_no ?_))
    try dsimp only [putF, rd, Frame.get]
    try simp only [Nat.zero_mul, Nat.mul_zero, Nat.mul_one, Nat.add_zero, Nat.zero_add, Nat.sub_zero, Nat.reduceAdd, Nat.reduceMul]
    first | refine r_op (o_load hS rfl rfl rfl rfl (s_no ?_)) | refine r_op (o_load hS rfl rfl (by assumption) rfl (s_no ?_)) | refine r_op (o_loadR rfl rfl rfl (s_no ?_)) | refine r_op (o_loadR rfl (by assumption) rfl (s_no ?_))
    try dsimp only [putF, rd, Frame.get]
    first | refine r_op (o_load hS rfl rfl rfl rfl (s_no ?_)) | refine r_op (o_load hS rfl rfl (by assumption) rfl (s_no ?_)) | refine r_op (o_loadR rfl rfl rfl (s_no ?_)) | refine r_op (o_loadR rfl (by assumption) rfl (s_no ?_))
    try dsimp only [putF, rd, Frame.get]
    refine r_op (o_bsliceR rfl (s_no ?_))
    try dsimp only [putF, rd, Frame.get, setCells, over]
    try dsimp only [putF, rd, Frame.get, setCells, over] at hS
    refine r_op ?_
    refine o_appendR hS rfl sd (SrcOf.one rfl) rfl (by omega) fun xd' md' S sd' hS => ?_
    refine s_no ?_
    try dsimp only [putF, rd, Frame.get]
    first | refine r_op (o_nilchk rfl (s_no ?_)) | refine r_op (o_nilchkR rfl (s_no ?_)) | refine r_op (o_nilchkF rfl (s_no ?_)) | refine r_op (o_nilchkM rfl (s_no ?_))
    try dsimp only [putF, rd, Frame.get]
    first | refine r_op (o_faddr rfl (s_no ?_)) | refine r_op (o_faddrR rfl (s_no ?_))
    try dsimp only [putF, rd, Frame.get]
    try simp only [Nat.zero_mul, Nat.mul_zero, Nat.mul_one, Nat.add_zero, Nat.zero_add, Nat.sub_zero, Nat.reduceAdd, Nat.reduceMul]
    refine r_op ?_
    refine o_store hS rfl rfl sd'.cl rfl (by simp only [List.length_append, List.length_cons]; omega) fun S hS => ?_; (try dsimp only [putF, rd, Frame.get] at hS); rw [setCells_mid rfl] at hS
    refine s_no ?_
    try dsimp only [putF, rd, Frame.get]
    refine r_nil (c_keep ?_)
    try dsimp only [List.map]
    try dsimp only [putF, rd, Frame.get]
    repeat (with_reducible first | refine c_seq ?_ | refine on_n ?_ | refine c_skip ?_ | refine c_block ?_ | refine on_r ?_ | refine c_ret ?_ | refine c_exit ?_ | refine on_e ?_ | refine ob_e ?_ | refine ob_n ?_ | refine ob_r ?_ | refine ob_x rfl ?_)
    refine c_opsD0 hS fun S hS => ?_
    refine d_op (q_op rfl (o_mov (s_no ?_)))
    try dsimp only [putF, rd, Frame.get]
    refine d_op (q_op rfl (o_mov (s_no ?_)))
    try dsimp only [putF, rd, Frame.get]
    first | refine d_op (q_op rfl (o_nilchk rfl (s_no ?_))) | refine d_op (q_op rfl (o_nilchkR rfl (s_no ?_))) | refine d_op (q_op rfl (o_nilchkF rfl (s_no ?_))) | refine d_op (q_op rfl (o_nilchkM rfl (s_no ?_)))
    try dsimp only [putF, rd, Frame.get]
    first | refine d_op (q_op rfl (o_faddr rfl (s_no ?_))) | refine d_op (q_op rfl (o_faddrR rfl (s_no ?_)))
    try dsimp only [putF, rd, Frame.get]
    try simp only [Nat.zero_mul, Nat.mul_zero, Nat.mul_one, Nat.add_zero, Nat.zero_add, Nat.sub_zero, Nat.reduceAdd, Nat.reduceMul]
    refine d_op (q_op rfl ?_)
    refine o_load hS rfl rfl (takeN_mid1 rfl) rfl ?_
    refine s_no ?_
    try dsimp only [putF, rd, Frame.get]
    refine d_op (q_op rfl (o_mov (s_no ?_)))
    try dsimp only [putF, rd, Frame.get]
    first | refine d_op (q_op rfl (o_nilchk rfl (s_no ?_))) | refine d_op (q_op rfl (o_nilchkR rfl (s_no ?_))) | refine d_op (q_op rfl (o_nilchkF rfl (s_no ?_))) | refine d_op (q_op rfl (o_nilchkM rfl (s_no ?_)))
    try dsimp only [putF, rd, Frame.get]
    first | refine d_op (q_op rfl (o_faddr rfl (s_no ?_))) | refine d_op (q_op rfl (o_faddrR rfl (s_no ?_)))
    try dsimp only [putF, rd, Frame.get]
    try simp only [Nat.zero_mul, Nat.mul_zero, Nat.mul_one, Nat.add_zero, Nat.zero_add, Nat.sub_zero, Nat.reduceAdd, Nat.reduceMul]
    first | refine d_op (q_op rfl (o_load hS rfl rfl rfl rfl (s_no ?_))) | refine d_op (q_op rfl (o_load hS rfl rfl (by assumption) rfl (s_no ?_))) | refine d_op (q_op rfl (o_loadR rfl rfl rfl (s_no ?_))) | refine d_op (q_op rfl (o_loadR rfl (by assumption) rfl (s_no ?_)))
    try dsimp only [putF, rd, Frame.get]
    first | refine d_op (q_op rfl (o_load hS rfl rfl rfl rfl (s_no ?_))) | refine d_op (q_op rfl (o_load hS rfl rfl (by assumption) rfl (s_no ?_))) | refine d_op (q_op rfl (o_loadR rfl rfl rfl (s_no ?_))) | refine d_op (q_op rfl (o_loadR rfl (by assumption) rfl (s_no ?_)))
    try dsimp only [putF, rd, Frame.get]
    refine d_op (q_call _ (undo_use hUn (s := h.text) (e := x) hmay ⟨rfl, rfl⟩) ?_)
    refine s_no ?_
    try dsimp only [putF, rd, Frame.get]
    refine d_zero ?_
    refine r_op (o_bsliceR rfl (s_no ?_))
    try dsimp only [putF, rd, Frame.get, setCells, over]
    try dsimp only [putF, rd, Frame.get, setCells, over] at hS
    refine r_op ?_
    refine o_appendR hS rfl sb (SrcOf.one rfl) rfl (by omega) fun xb' mb' S sb' hS => ?_
    refine s_no ?_
    try dsimp only [putF, rd, Frame.get]
    first | refine r_op (o_nilchk rfl (s_no ?_)) | refine r_op (o_nilchkR rfl (s_no ?_)) | refine r_op (o_nilchkF rfl (s_no ?_)) | refine r_op (o_nilchkM rfl (s_no ?_))
    try dsimp only [putF, rd, Frame.get]
    first | refine r_op (o_faddr rfl (s_no ?_)) | refine r_op (o_faddrR rfl (s_no ?_))
    try dsimp only [putF, rd, Frame.get]
    try simp only [Nat.zero_mul, Nat.mul_zero, Nat.mul_one, Nat.add_zero, Nat.zero_add, Nat.sub_zero, Nat.reduceAdd, Nat.reduceMul]
    refine r_op ?_
    refine o_store hS rfl rfl sb'.cl rfl (by simp only [List.length_append, List.length_cons]; omega) fun S hS => ?_; (try dsimp only [putF, rd, Frame.get] at hS); rw [setCells_mid1 rfl] at hS
    refine s_no ?_
    try dsimp only [putF, rd, Frame.get]
    refine r_nil (c_keep ?_)
    try dsimp only [List.map]
    try dsimp only [putF, rd, Frame.get]
    repeat (with_reducible first | refine c_seq ?_ | refine on_n ?_ | refine c_skip ?_ | refine c_block ?_ | refine on_r ?_ | refine c_ret ?_ | refine c_exit ?_ | refine on_e ?_ | refine ob_e ?_ | refine ob_n ?_ | refine ob_r ?_ | refine ob_x rfl ?_)
    refine c_opsD0 hS fun S hS => ?_
    refine d_zero ?_
    refine r_op (o_mov (s_no ?_))
    try dsimp only [putF, rd, Frame.get]
    refine r_op (o_mov (s_no ?_))
    try dsimp only [putF, rd, Frame.get]
    first | refine r_op (o_nilchk rfl (s_no ?_)) | refine r_op (o_nilchkR rfl (s_no ?_)) | refine r_op (o_nilchkF rfl (s_no ?_)) | refine r_op (o_nilchkM rfl (s_no ?_))
    try dsimp only [putF, rd, Frame.get]
    first | refine r_op (o_faddr rfl (s_no ?_)) | refine r_op (o_faddrR rfl (s_no ?_))
    try dsimp only [putF, rd, Frame.get]
    try simp only [Nat.zero_mul, Nat.mul_zero, Nat.mul_one, Nat.add_zero, Nat.zero_add, Nat.sub_zero, Nat.reduceAdd, Nat.reduceMul]
    first | refine r_op (o_load hS rfl rfl rfl rfl (s_no ?_)) | refine r_op (o_load hS rfl rfl (by assumption) rfl (s_no ?_)) | refine r_op (o_loadR rfl rfl rfl (s_no ?_)) | refine r_op (o_loadR rfl (by assumption) rfl (s_no ?_))
    try dsimp only [putF, rd, Frame.get]
    first | refine r_op (o_load hS rfl rfl rfl rfl (s_no ?_)) | refine r_op (o_load hS rfl rfl (by assumption) rfl (s_no ?_)) | refine r_op (o_loadR rfl rfl rfl (s_no ?_)) | refine r_op (o_loadR rfl (by assumption) rfl (s_no ?_))
    try dsimp only [putF, rd, Frame.get]
    refine r_op (o_call ?_)
    dsimp only [List.map, putF, rd, Frame.get]
    refine made_use hMd (s := h.text) (e := x) hmay ?_
    refine s_no ?_
    try dsimp only [putF, rd, Frame.get]
    first | refine r_op (o_nilchk rfl (s_no ?_)) | refine r_op (o_nilchkR rfl (s_no ?_)) | refine r_op (o_nilchkF rfl (s_no ?_)) | refine r_op (o_nilchkM rfl (s_no ?_))
    try dsimp only [putF, rd, Frame.get]
    first | refine r_op (o_faddr rfl (s_no ?_)) | refine r_op (o_faddrR rfl (s_no ?_))
    try dsimp only [putF, rd, Frame.get]
    try simp only [Nat.zero_mul, Nat.mul_zero, Nat.mul_one, Nat.add_zero, Nat.zero_add, Nat.sub_zero, Nat.reduceAdd, Nat.reduceMul]
    first | refine r_op (o_store hS rfl rfl rfl rfl (by simp) fun S hS => s_no ?_) | refine r_op (o_store hS rfl rfl rfl rfl (by assumption) fun S hS => s_no ?_)
    try dsimp only [putF, rd, Frame.get]
    try dsimp only [putF, rd, Frame.get, setCells, over] at hS
    refine r_nil (c_keep ?_)
    try dsimp only [List.map]
    try dsimp only [putF, rd, Frame.get]
    repeat (with_reducible first | refine c_seq ?_ | refine on_n ?_ | refine c_skip ?_ | refine c_block ?_ | refine on_r ?_ | refine c_ret ?_ | refine c_exit ?_ | refine on_e ?_ | refine ob_e ?_ | refine ob_n ?_ | refine ob_r ?_ | refine ob_x rfl ?_)
    refine c_ops ?_
    refine r_op (o_mov (s_no ?_))
    try dsimp only [putF, rd, Frame.get]
    first | refine r_op (o_nilchk rfl (s_no ?_)) | refine r_op (o_nilchkR rfl (s_no ?_)) | refine r_op (o_nilchkF rfl (s_no ?_)) | refine r_op (o_nilchkM rfl (s_no ?_))
    try dsimp only [putF, rd, Frame.get]
    first | refine r_op (o_faddr rfl (s_no ?_)) | refine r_op (o_faddrR rfl (s_no ?_))
    try dsimp only [putF, rd, Frame.get]
    try simp only [Nat.zero_mul, Nat.mul_zero, Nat.mul_one, Nat.add_zero, Nat.zero_add, Nat.sub_zero, Nat.reduceAdd, Nat.reduceMul]
    first | refine r_op (o_store hS rfl rfl rfl rfl (by simp) fun S hS => s_no ?_) | refine r_op (o_store hS rfl rfl rfl rfl (by assumption) fun S hS => s_no ?_)
    try dsimp only [putF, rd, Frame.get]
    try dsimp only [putF, rd, Frame.get, setCells, over] at hS
    refine r_nil (c_keep ?_)
    try dsimp only [List.map]
    try dsimp only [putF, rd, Frame.get]
    repeat (with_reducible first | refine c_seq ?_ | refine on_n ?_ | refine c_skip ?_ | refine c_block ?_ | refine on_r ?_ | refine c_ret ?_ | refine c_exit ?_ | refine on_e ?_ | refine ob_e ?_ | refine ob_n ?_ | refine ob_r ?_ | refine ob_x rfl ?_)
    refine c_ops ?_
    refine r_op (o_mov (s_no ?_))
    try dsimp only [putF, rd, Frame.get]
    refine r_nil (c_keep ?_)
    try dsimp only [List.map]
    try dsimp only [putF, rd, Frame.get]
    repeat (with_reducible first | refine c_seq ?_ | refine on_n ?_ | refine c_skip ?_ | refine c_block ?_ | refine on_r ?_ | refine c_ret ?_ | refine c_exit ?_ | refine on_e ?_ | refine ob_e ?_ | refine ob_n ?_ | refine ob_r ?_ | refine ob_x rfl ?_)
    dsimp only
    unfold __hist_History__make_r
    refine w_tmp (w_nil ?_)
    dsimp only [retV, Frame.get]
    have e : (hMake h x).undo = us ++ [(g.1 ++ [x], g.2 ++ [editUndo h.text x])] := by simp only [hMake, hug, addLast, lastG_snoc, List.dropLast_concat]
    have eL : (hMake h x).undo.length = (us ++ [g]).length := by rw [e]; simp
    refine ⟨pt lh (.row vh 0 [.str (editMade h.text x), .sl p vu off (us ++ [g]).length, .nils, .bool true]) + (pt p (.row vu 2 (A ++ xd' :: xb' :: B)) + ((n1 + (md' + mb')) + (HM.nil + HM.nil))), ⟨rfl, .sl p vu off (us ++ [g]).length, .nils, A.drop off ++ [xd', xb'], [], pt p (.row vu 2 (A ++ xd' :: xb' :: B)), n1 + (md' + mb'), HM.nil, HM.nil, rfl, ?_, ?_, SlR.nil, rfl, rfl⟩, (hS.right.eq (m' := _ + (mr + gr)) ?_).left⟩
    · rw [eL]
      refine .inr ⟨p, vu, off, _, rfl, rfl, ?_, ?_⟩
      · simp only [List.length_append, List.length_cons, List.length_nil]; omega
      · rw [show (us ++ [g]).length * 2 = us.length * 2 + 2 by omega]
        exact (subL_mid hA).symm
    · rw [e]
      refine GrR.app q1 (GrR.one.2 ⟨xd', xb', md', mb', rfl, rfl, ?_, ?_⟩)
      · have := sd'
        rw [show encEs g.1 ++ [.int .i64 x.1, .int .i64 x.2.1, .str x.2.2] = encEs (g.1 ++ [x]) from encEs_snoc _ _] at this
        simpa using this
      · have := sb'
        rw [show encEs g.2 ++ [.int .i64 (editUndo h.text x).1, .int .i64 (editUndo h.text x).2.1, .str (editUndo h.text x).2.2] = encEs (g.2 ++ [editUndo h.text x]) from encEs_snoc _ _] at this
        simpa using this
    · ac_rfl
  repeat (with_reducible first | refine c_seq ?_ | refine on_n ?_ | refine c_skip ?_ | refine c_block ?_ | refine on_r ?_ | refine c_ret ?_ | refine c_exit ?_ | refine on_e ?_ | refine ob_e ?_ | refine ob_n ?_ | refine ob_r ?_ | refine ob_x rfl ?_)
  refine c_ops ?_
  refine r_op (o_mov (s_no ?_))
  try dsimp only [putF, rd, Frame.get]
  first | refine r_op (o_nilchk rfl (s_no ?_)) | refine r_op (o_nilchkR rfl (s_no ?_)) | refine r_op (o_nilchkF rfl (s_no ?_)) | refine r_op (o_nilchkM rfl (s_no ?_))
  try dsimp only [putF, rd, Frame.get]
  first | refine r_op (o_faddr rfl (s_no ?_)) | refine r_op (o_faddrR rfl (s_no ?_))
  try dsimp only [putF, rd, Frame.get]
  try simp only [Nat.zero_mul, Nat.mul_zero, Nat.mul_one, Nat.add_zero, Nat.zero_add, Nat.sub_zero, Nat.reduceAdd, Nat.reduceMul]
  first | refine r_op (o_load hS rfl rfl rfl rfl (s_no ?_)) | refine r_op (o_load hS rfl rfl (by assumption) rfl (s_no ?_)) | refine r_op (o_loadR rfl rfl rfl (s_no ?_)) | refine r_op (o_loadR rfl (by assumption) rfl (s_no ?_))
  try dsimp only [putF, rd, Frame.get]
  refine r_op (o_not rfl (s_no ?_))
  try dsimp only [putF, rd, Frame.get]
  refine r_nil (c_keep ?_)
  try dsimp only [List.map]
  try dsimp only [putF, rd, Frame.get]
  repeat (with_reducible first | refine c_seq ?_ | refine on_n ?_ | refine c_skip ?_ | refine c_block ?_ | refine on_r ?_ | refine c_ret ?_ | refine c_exit ?_ | refine on_e ?_ | refine ob_e ?_ | refine ob_n ?_ | refine ob_r ?_ | refine ob_x rfl ?_)
  refine c_bool rfl (fun hb => ?_) (fun hb => ?_)
  · have ho : h.opn = false := by simpa using hb
    have hoe : hOpen h = trim20 (h.undo ++ [([], [])]) := by unfold hOpen; rw [ho, if_neg (by simp)]
    repeat (with_reducible first | refine c_seq ?_ | refine on_n ?_ | refine c_skip ?_ | refine c_block ?_ | refine on_r ?_ | refine c_ret ?_ | refine c_exit ?_ | refine on_e ?_ | refine ob_e ?_ | refine ob_n ?_ | refine ob_r ?_ | refine ob_x rfl ?_)
    refine c_ops ?_
    refine r_op (o_mov (s_no ?_))
    try dsimp only [putF, rd, Frame.get]
    refine r_op (o_mov (s_no ?_))
    try dsimp only [putF, rd, Frame.get]
    first | refine r_op (o_nilchk rfl (s_no ?_)) | refine r_op (o_nilchkR rfl (s_no ?_)) | refine r_op (o_nilchkF rfl (s_no ?_)) | refine r_op (o_nilchkM rfl (s_no ?_))
    try dsimp only [putF, rd, Frame.get]
    first | refine r_op (o_faddr rfl (s_no ?_)) | refine r_op (o_faddrR rfl (s_no ?_))
    try dsimp only [putF, rd, Frame.get]
    try simp only [Nat.zero_mul, Nat.mul_zero, Nat.mul_one, Nat.add_zero, Nat.zero_add, Nat.sub_zero, Nat.reduceAdd, Nat.reduceMul]
    first | refine r_op (o_load hS rfl rfl rfl rfl (s_no ?_)) | refine r_op (o_load hS rfl rfl (by assumption) rfl (s_no ?_)) | refine r_op (o_loadR rfl rfl rfl (s_no ?_)) | refine r_op (o_loadR rfl (by assumption) rfl (s_no ?_))
    try dsimp only [putF, rd, Frame.get]
    refine r_op (o_build rfl (s_no ?_))
    try dsimp only [putF, rd, Frame.get, setCells, over]
    refine r_op (o_bsliceR rfl (s_no ?_))
    try dsimp only [putF, rd, Frame.get, setCells, over]
    try dsimp only [putF, rd, Frame.get, setCells, over] at hS
    refine r_op ?_
    refine o_appendR hS rfl su (SrcOf.one rfl) rfl (by omega) fun xu' mu' S su' hS => ?_
    refine s_no ?_
    try dsimp only [putF, rd, Frame.get]
    first | refine r_op (o_nilchk rfl (s_no ?_)) | refine r_op (o_nilchkR rfl (s_no ?_)) | refine r_op (o_nilchkF rfl (s_no ?_)) | refine r_op (o_nilchkM rfl (s_no ?_))
    try dsimp only [putF, rd, Frame.get]
    first | refine r_op (o_faddr rfl (s_no ?_)) | refine r_op (o_faddrR rfl (s_no ?_))
    try dsimp only [putF, rd, Frame.get]
    try simp only [Nat.zero_mul, Nat.mul_zero, Nat.mul_one, Nat.add_zero, Nat.zero_add, Nat.sub_zero, Nat.reduceAdd, Nat.reduceMul]
    refine r_op ?_
    refine o_store hS rfl rfl su'.cl rfl (by simp) fun S hS => ?_; (try dsimp only [putF, rd, Frame.get, setCells, over] at hS)
    refine s_no ?_
    try dsimp only [putF, rd, Frame.get]
    refine r_nil (c_keep ?_)
    try dsimp only [List.map]
    try dsimp only [putF, rd, Frame.get]
    repeat (with_reducible first | refine c_seq ?_ | refine on_n ?_ | refine c_skip ?_ | refine c_block ?_ | refine on_r ?_ | refine c_ret ?_ | refine c_exit ?_ | refine on_e ?_ | refine ob_e ?_ | refine ob_n ?_ | refine ob_r ?_ | refine ob_x rfl ?_)
    refine c_join fun K2 hK2 => ?_
    have rest2 : ∀ (xu : AVal) (cu : List AVal) (mu gu : HM) (S : Store), SlR 2 xu cu (hOpen h).length mu → GrR (hOpen h) cu gu →
        Has S (pt l3 (.row v3 0 [.int .i64 x.1, .int .i64 x.2.1, .str x.2.2]) + (pt lh (.row vh 0 [.str h.text, xu, xr, .bool h.opn]) + (mu + (gu + (mr + gr))) + mf)) → K2 [] S := by
      intro xu cu mu gu S su qu hS
      refine hK2 _ _ rfl ?_
      dsimp only [zipF, List.map, Frame.get]
      repeat (with_reducible first | refine c_seq ?_ | refine on_n ?_ | refine c_skip ?_ | refine c_block ?_ | refine on_r ?_ | refine c_ret ?_ | refine c_exit ?_ | refine on_e ?_ | refine ob_e ?_ | refine ob_n ?_ | refine ob_r ?_ | refine ob_x rfl ?_)
      refine c_ops ?_
      refine r_op (o_mov (s_no ?_))
      try dsimp only [putF, rd, Frame.get]
      first | refine r_op (o_nilchk rfl (s_no ?_)) | refine r_op (o_nilchkR rfl (s_no ?_)) | refine r_op (o_nilchkF rfl (s_no ?_)) | refine r_op (o_nilchkM rfl (s_no ?_))
      try dsimp only [putF, rd, Frame.get]
      first | refine r_op (o_faddr rfl (s_no ?_)) | refine r_op (o_faddrR rfl (s_no ?_))
      try dsimp only [putF, rd, Frame.get]
      try simp only [Nat.zero_mul, Nat.mul_zero, Nat.mul_one, Nat.add_zero, Nat.zero_add, Nat.sub_zero, Nat.reduceAdd, Nat.reduceMul]
      first | refine r_op (o_store hS rfl rfl rfl rfl (by simp) fun S hS => s_no ?_) | refine r_op (o_store hS rfl rfl rfl rfl (by assumption) fun S hS => s_no ?_)
      try dsimp only [putF, rd, Frame.get]
      try dsimp only [putF, rd, Frame.get, setCells, over] at hS
      refine r_nil (c_keep ?_)
      try dsimp only [List.map]
      try dsimp only [putF, rd, Frame.get]
      repeat (with_reducible first | refine c_seq ?_ | refine on_n ?_ | refine c_skip ?_ | refine c_block ?_ | refine on_r ?_ | refine c_ret ?_ | refine c_exit ?_ | refine on_e ?_ | refine ob_e ?_ | refine ob_n ?_ | refine ob_r ?_ | refine ob_x rfl ?_)
      exact rest _ _ _ _ _ su qu hS
    have qu' : GrR (h.undo ++ [([], [])]) (cu ++ [.nils, .nils]) (gu + HM.nil) := GrR.app qu (GrR.one.2 ⟨.nils, .nils, HM.nil, HM.nil, rfl, (HM.nil_add _).symm, SlR.nil, SlR.nil⟩)
    rw [HM.add_nil] at qu'
    have hU : (h.undo ++ [(([], []) : Group)]).length = h.undo.length + 1 := by simp
    repeat (with_reducible first | refine c_seq ?_ | refine on_n ?_ | refine c_skip ?_ | refine c_block ?_ | refine on_r ?_ | refine c_ret ?_ | refine c_exit ?_ | refine on_e ?_ | refine ob_e ?_ | refine ob_n ?_ | refine ob_r ?_ | refine ob_x rfl ?_)
    refine c_ops ?_
    refine r_op (o_mov (s_no ?_))
    try dsimp only [putF, rd, Frame.get]
    first | refine r_op (o_nilchk rfl (s_no ?_)) | refine r_op (o_nilchkR rfl (s_no ?_)) | refine r_op (o_nilchkF rfl (s_no ?_)) | refine r_op (o_nilchkM rfl (s_no ?_))
    try dsimp only [putF, rd, Frame.get]
    first | refine r_op (o_faddr rfl (s_no ?_)) | refine r_op (o_faddrR rfl (s_no ?_))
    try dsimp only [putF, rd, Frame.get]
    try simp only [Nat.zero_mul, Nat.mul_zero, Nat.mul_one, Nat.add_zero, Nat.zero_add, Nat.sub_zero, Nat.reduceAdd, Nat.reduceMul]
    first | refine r_op (o_load hS rfl rfl rfl rfl (s_no ?_)) | refine r_op (o_load hS rfl rfl (by assumption) rfl (s_no ?_)) | refine r_op (o_loadR rfl rfl rfl (s_no ?_)) | refine r_op (o_loadR rfl (by assumption) rfl (s_no ?_))
    try dsimp only [putF, rd, Frame.get]
    refine r_op ?_
    refine o_len su'.len ?_
    refine s_no ?_
    try dsimp only [putF, rd, Frame.get]
    refine r_op (o_bin rfl (by first | trivial | (unfold inI64; omega)) (s_no ?_))
    try dsimp only [putF, rd, Frame.get]
    refine r_nil (c_keep ?_)
    try dsimp only [List.map]
    try dsimp only [putF, rd, Frame.get]
    repeat (with_reducible first | refine c_seq ?_ | refine on_n ?_ | refine c_skip ?_ | refine c_block ?_ | refine on_r ?_ | refine c_ret ?_ | refine c_exit ?_ | refine on_e ?_ | refine ob_e ?_ | refine ob_n ?_ | refine ob_r ?_ | refine ob_x rfl ?_)
    refine c_dec rfl (fun hg => ?_) (fun hg => ?_)
    · have ht : hOpen h = (h.undo ++ [([], [])]).drop 1 := by rw [hoe]; unfold trim20; rw [if_pos (by omega)]
      obtain ⟨p, vu, off, cs, rfl, rfl, hle, hcs⟩ := su'.pos (by omega)
      repeat (with_reducible first | refine c_seq ?_ | refine on_n ?_ | refine c_skip ?_ | refine c_block ?_ | refine on_r ?_ | refine c_ret ?_ | refine c_exit ?_ | refine on_e ?_ | refine ob_e ?_ | refine ob_n ?_ | refine ob_r ?_ | refine ob_x rfl ?_)
      refine c_ops ?_
      refine r_op (o_mov (s_no ?_))
      try dsimp only [putF, rd, Frame.get]
      refine r_op (o_mov (s_no ?_))
      try dsimp only [putF, rd, Frame.get]
      first | refine r_op (o_nilchk rfl (s_no ?_)) | refine r_op (o_nilchkR rfl (s_no ?_)) | refine r_op (o_nilchkF rfl (s_no ?_)) | refine r_op (o_nilchkM rfl (s_no ?_))
      try dsimp only [putF, rd, Frame.get]
      first | refine r_op (o_faddr rfl (s_no ?_)) | refine r_op (o_faddrR rfl (s_no ?_))
      try dsimp only [putF, rd, Frame.get]
      try simp only [Nat.zero_mul, Nat.mul_zero, Nat.mul_one, Nat.add_zero, Nat.zero_add, Nat.sub_zero, Nat.reduceAdd, Nat.reduceMul]
      first | refine r_op (o_load hS rfl rfl rfl rfl (s_no ?_)) | refine r_op (o_load hS rfl rfl (by assumption) rfl (s_no ?_)) | refine r_op (o_loadR rfl rfl rfl (s_no ?_)) | refine r_op (o_loadR rfl (by assumption) rfl (s_no ?_))
      try dsimp only [putF, rd, Frame.get]
      first | refine r_op (o_slice hS rfl rfl rfl ⟨_, (rfl : _ = AVal.int .i64 ((1 : Nat) : Int))⟩ (by omega) (by omega) (s_no ?_)) | refine r_op (o_sliceR rfl rfl ⟨_, (rfl : _ = AVal.int .i64 ((1 : Nat) : Int))⟩ (by omega) (by omega) (by assumption) (s_no ?_)) | refine r_op (o_sliceN rfl rfl ⟨_, (rfl : _ = AVal.int .i64 ((1 : Nat) : Int))⟩ (s_no ?_))
      try dsimp only [putF, rd, Frame.get]
      try simp only [Nat.zero_mul, Nat.mul_zero, Nat.mul_one, Nat.add_zero, Nat.zero_add, Nat.sub_zero, Nat.reduceAdd, Nat.reduceMul]
      first | refine r_op (o_nilchk rfl (s_no ?_)) | refine r_op (o_nilchkR rfl (s_no ?_)) | refine r_op (o_nilchkF rfl (s_no ?_)) | refine r_op (o_nilchkM rfl (s_no ?_))
      try dsimp only [putF, rd, Frame.get]
      first | refine r_op (o_faddr rfl (s_no ?_)) | refine r_op (o_faddrR rfl (s_no ?_))
      try dsimp only [putF, rd, Frame.get]
      try simp only [Nat.zero_mul, Nat.mul_zero, Nat.mul_one, Nat.add_zero, Nat.zero_add, Nat.sub_zero, Nat.reduceAdd, Nat.reduceMul]
      first | refine r_op (o_store hS rfl rfl rfl rfl (by simp) fun S hS => s_no ?_) | refine r_op (o_store hS rfl rfl rfl rfl (by assumption) fun S hS => s_no ?_)
      try dsimp only [putF, rd, Frame.get]
      try dsimp only [putF, rd, Frame.get, setCells, over] at hS
      refine r_nil (c_keep ?_)
      try dsimp only [List.map]
      try dsimp only [putF, rd, Frame.get]
      repeat (with_reducible first | refine c_seq ?_ | refine on_n ?_ | refine c_skip ?_ | refine c_block ?_ | refine on_r ?_ | refine c_ret ?_ | refine c_exit ?_ | refine on_e ?_ | refine ob_e ?_ | refine ob_n ?_ | refine ob_r ?_ | refine ob_x rfl ?_)
      have su2 := su'.tail (j := 1) (by omega)
      rw [← List.take_append_drop 1 (h.undo ++ [([], [])])] at qu'
      obtain ⟨c1, c2, n1, n2, e1, rfl, q1, q2⟩ := GrR.split qu'
      have hc1 : c1.length = 2 := by rw [q1.clen, List.length_take]; omega
      have hc2 : (cu ++ [AVal.nils, .nils]).drop (1 * 2) = c2 := by rw [e1, List.drop_append_of_le_length (by omega), List.drop_of_length_le (by omega)]; rfl
      have hl2 : h.undo.length + 1 - 1 = (hOpen h).length := by rw [ht, List.length_drop]; omega
      rw [hc2, hl2] at su2
      rw [← ht] at q2
      have hl3 : h.undo.length + 1 - 1 = (hOpen h).length := hl2
      rw [hl3] at hS
      exact rest2 _ _ _ _ _ su2 q2 ((hS.eq (m' := _ + n1) (by ac_rfl)).left)
    · have ht : hOpen h = h.undo ++ [([], [])] := by rw [hoe]; unfold trim20; rw [if_neg (by omega)]
      repeat (with_reducible first | refine c_seq ?_ | refine on_n ?_ | refine c_skip ?_ | refine c_block ?_ | refine on_r ?_ | refine c_ret ?_ | refine c_exit ?_ | refine on_e ?_ | refine ob_e ?_ | refine ob_n ?_ | refine ob_r ?_ | refine ob_x rfl ?_)
      refine rest2 xu' (cu ++ [.nils, .nils]) mu' gu _ ?_ ?_ hS
      · rw [ht, hU]; exact su'
      · rw [ht]; exact qu'
  · have ho : h.opn = true := by simpa using hb
    have hoe : hOpen h = h.undo := by unfold hOpen; rw [if_pos ho]
    repeat (with_reducible first | refine c_seq ?_ | refine on_n ?_ | refine c_skip ?_ | refine c_block ?_ | refine on_r ?_ | refine c_ret ?_ | refine c_exit ?_ | refine on_e ?_ | refine ob_e ?_ | refine ob_n ?_ | refine ob_r ?_ | refine ob_x rfl ?_)
    refine rest xu cu mu gu _ ?_ ?_ ?_
    · rw [hoe]; exact su
    · rw [hoe]; exact qu
    · rw [ho] at hS; exact hS
theorem enc_at : ∀ {es : List Edit} {j : Nat} {e : Edit}, es[j]? = some e → ((encEs es).drop (j * 3)).take 3 = [.int .i64 e.1, .int .i64 e.2.1, .str e.2.2]
  | [], j, e, h => by simp at h
  | a :: es, 0, e, h => by simp at h; subst h; rfl
  | a :: es, j + 1, e, h => by
    have := enc_at (es := es) (j := j) (e := e) (by simpa using h)
    rw [show (j + 1) * 3 = j * 3 + 3 by omega, show encEs (a :: es) = [.int .i64 a.1, .int .i64 a.2.1, .str a.2.2] ++ encEs es from rfl, List.drop_append]
    simpa using this
theorem may_at {t : Bytes} {es : List Edit} (h : editCode t.length es = 0) {j : Nat} {e : Edit} (hj : es[j]? = some e) : editMay (editLast t (es.take j)).length e ∧ editLast t (es.take (j + 1)) = editMade (editLast t (es.take j)) e := by
  have hlt := (List.getElem?_eq_some_iff.1 hj).1
  have e1 : es.take (j + 1) = es.take j ++ [e] := by rw [List.take_add_one, hj]; rfl
  refine ⟨?_, by rw [e1, editLast_snoc]⟩
  rw [← List.take_append_drop (j + 1) es, e1] at h
  have : ∀ (l l' : List Edit) (s : Bytes), editCode s.length (l ++ l') = 0 → editCode s.length l = 0 := by
    intro l
    induction l with
    | nil => intro l' s _; rfl
    | cons a l ih =>
      intro l' s h
      obtain ⟨h1, h2⟩ := editCode_cons.1 h
      rw [editCode_cons]
      rw [← editMade_len h1] at h2 ⊢
      exact ⟨h1, ih l' _ h2⟩
  exact (editCode_snoc.1 (this _ _ _ h)).2

theorem change_walk (hMd : Con Try.prog f_edit_Made edit_Made_ct) {lh vh : Nat} {t : Bytes} {a b c x : AVal} {es : List Edit} {ml : HM} (hs : SlR 3 x (encEs es) es.length ml) (hc : editCode t.length es = 0) (hl : es.length ≤ 1000) :
    HC Try.prog f___hist_History__change [.ptr lh vh 0, x] (pt lh (.row vh 0 [.str t, a, b, c]) + ml) fun r m' => r = x ∧ m' = pt lh (.row vh 0 [.str (editLast t es), a, b, .bool false]) + ml := by
  intro S mf hS
  refine __hist_History__change_ok.out rfl ?_ (by simp [__hist_History__change_fi])
  unfold vcFun __hist_History__change_fi
  dsimp only
  unfold __hist_History__change_c
  dsimp only [argF]
  repeat (with_reducible first | refine c_seq ?_ | refine on_n ?_ | refine c_skip ?_ | refine c_block ?_ | refine on_r ?_ | refine c_ret ?_ | refine c_exit ?_ | refine on_e ?_ | refine ob_e ?_ | refine ob_n ?_ | refine ob_r ?_ | refine ob_x rfl ?_)
  refine c_ops ?_
  refine r_op (o_mov (s_no ?_))
  try dsimp only [putF, rd, Frame.get]
  refine r_nil (c_keep ?_)
  try dsimp only [List.map]
  try dsimp only [putF, rd, Frame.get]
  repeat (with_reducible first | refine c_seq ?_ | refine on_n ?_ | refine c_skip ?_ | refine c_block ?_ | refine on_r ?_ | refine c_ret ?_ | refine c_exit ?_ | refine on_e ?_ | refine ob_e ?_ | refine ob_n ?_ | refine ob_r ?_ | refine ob_x rfl ?_)
  refine c_ops ?_
  refine r_op (o_mov (s_no ?_))
  try dsimp only [putF, rd, Frame.get]
  refine r_op ?_
  refine o_len hs.len ?_
  refine s_no ?_
  try dsimp only [putF, rd, Frame.get]
  refine r_op (o_mov (s_no ?_))
  try dsimp only [putF, rd, Frame.get]
  refine r_nil (c_keep ?_)
  try dsimp only [List.map]
  try dsimp only [putF, rd, Frame.get]
  repeat (with_reducible first | refine c_seq ?_ | refine on_n ?_ | refine c_skip ?_ | refine c_block ?_ | refine on_r ?_ | refine c_ret ?_ | refine c_exit ?_ | refine on_e ?_ | refine ob_e ?_ | refine ob_n ?_ | refine ob_r ?_ | refine ob_x rfl ?_)
  refine c_loop (fun n xs S => ∃ j : Nat, xs = [.int .i64 (j : Int)] ∧ j ≤ es.length ∧ n = es.length - j ∧ Has S (pt lh (.row vh 0 [.str (editLast t (es.take j)), a, b, c]) + ml + mf)) es.length ⟨0, rfl, Nat.zero_le _, rfl, hS⟩ ?_
  clear hS
  rintro n xs S hl' ⟨j, rfl, hj, rfl, hS⟩
  dsimp only [zipF, List.map, Frame.get]
  repeat (with_reducible first | refine c_seq ?_ | refine on_n ?_ | refine c_skip ?_ | refine c_block ?_ | refine on_r ?_ | refine c_ret ?_ | refine c_exit ?_ | refine on_e ?_ | refine ob_e ?_ | refine ob_n ?_ | refine ob_r ?_ | refine ob_x rfl ?_)
  refine c_ops ?_
  refine r_op (o_bin rfl (by first | trivial | (unfold inI64; omega)) (s_no ?_))
  try dsimp only [putF, rd, Frame.get]
  refine r_nil (c_keep ?_)
  try dsimp only [List.map]
  try dsimp only [putF, rd, Frame.get]
  repeat (with_reducible first | refine c_seq ?_ | refine on_n ?_ | refine c_skip ?_ | refine c_block ?_ | refine on_r ?_ | refine c_ret ?_ | refine c_exit ?_ | refine on_e ?_ | refine ob_e ?_ | refine ob_n ?_ | refine ob_r ?_ | refine ob_x rfl ?_)
  refine c_dec rfl (fun hlt => ?_) (fun hlt => ?_)
  · obtain ⟨e, he⟩ : ∃ e, es[j]? = some e := ⟨_, List.getElem?_eq_getElem (by omega)⟩
    obtain ⟨hmay, hnext⟩ := may_at hc he
    obtain ⟨p, v, off, cs, rfl, rfl, hle, hcs⟩ := hs.pos (by omega)
    have ht : takeN 3 (List.drop (off + j * 3) cs) = some [.int .i64 e.1, .int .i64 e.2.1, .str e.2.2] := by
      rw [take_sub hle (show j < es.length by omega), ← hcs, enc_at he]
    repeat (with_reducible first | refine c_seq ?_ | refine on_n ?_ | refine c_skip ?_ | refine c_block ?_ | refine on_r ?_ | refine c_ret ?_ | refine c_exit ?_ | refine on_e ?_ | refine ob_e ?_ | refine ob_n ?_ | refine ob_r ?_ | refine ob_x rfl ?_)
    refine c_ops ?_
    first | refine r_op (o_iaddr hS rfl rfl rfl (by omega) (s_no ?_)) | refine r_op (o_iaddrR rfl rfl (by omega) (by assumption) (s_no ?_)) | refine r_op (o_iaddrA rfl rfl (by omega) (s_no ?_)) | refine r_op (o_iaddrAR rfl rfl (by omega) (s_no ?_))
    try dsimp only [putF, rd, Frame.get]
    try simp only [Nat.zero_mul, Nat.mul_zero, Nat.mul_one, Nat.add_zero, Nat.zero_add, Nat.sub_zero, Nat.reduceAdd, Nat.reduceMul]
    first | refine r_op (o_load hS rfl rfl rfl rfl (s_no ?_)) | refine r_op (o_load hS rfl rfl (by assumption) rfl (s_no ?_)) | refine r_op (o_loadR rfl rfl rfl (s_no ?_)) | refine r_op (o_loadR rfl (by assumption) rfl (s_no ?_))
    try dsimp only [putF, rd, Frame.get]
    refine r_op (o_alloc hS fun v6 l6 S hS => s_no ?_)
    try dsimp only [putF, rd, Frame.get]
    first | refine r_op (o_store hS rfl rfl rfl rfl (by simp) fun S hS => s_no ?_) | refine r_op (o_store hS rfl rfl rfl rfl (by assumption) fun S hS => s_no ?_)
    try dsimp only [putF, rd, Frame.get]
    try dsimp only [putF, rd, Frame.get, setCells, over] at hS
    refine r_nil (c_keep ?_)
    try dsimp only [List.map]
    try dsimp only [putF, rd, Frame.get]
    repeat (with_reducible first | refine c_seq ?_ | refine on_n ?_ | refine c_skip ?_ | refine c_block ?_ | refine on_r ?_ | refine c_ret ?_ | refine c_exit ?_ | refine on_e ?_ | refine ob_e ?_ | refine ob_n ?_ | refine ob_r ?_ | refine ob_x rfl ?_)
    refine c_opsD0 hS fun S hS => ?_
    refine d_zero ?_
    refine r_op (o_mov (s_no ?_))
    try dsimp only [putF, rd, Frame.get]
    refine r_op (o_mov (s_no ?_))
    try dsimp only [putF, rd, Frame.get]
    first | refine r_op (o_nilchk rfl (s_no ?_)) | refine r_op (o_nilchkR rfl (s_no ?_)) | refine r_op (o_nilchkF rfl (s_no ?_)) | refine r_op (o_nilchkM rfl (s_no ?_))
    try dsimp only [putF, rd, Frame.get]
    first | refine r_op (o_faddr rfl (s_no ?_)) | refine r_op (o_faddrR rfl (s_no ?_))
    try dsimp only [putF, rd, Frame.get]
    try simp only [Nat.zero_mul, Nat.mul_zero, Nat.mul_one, Nat.add_zero, Nat.zero_add, Nat.sub_zero, Nat.reduceAdd, Nat.reduceMul]
    first | refine r_op (o_load hS rfl rfl rfl rfl (s_no ?_)) | refine r_op (o_load hS rfl rfl (by assumption) rfl (s_no ?_)) | refine r_op (o_loadR rfl rfl rfl (s_no ?_)) | refine r_op (o_loadR rfl (by assumption) rfl (s_no ?_))
    try dsimp only [putF, rd, Frame.get]
    first | refine r_op (o_load hS rfl rfl rfl rfl (s_no ?_)) | refine r_op (o_load hS rfl rfl (by assumption) rfl (s_no ?_)) | refine r_op (o_loadR rfl rfl rfl (s_no ?_)) | refine r_op (o_loadR rfl (by assumption) rfl (s_no ?_))
    try dsimp only [putF, rd, Frame.get]
    refine r_op (o_call ?_)
    dsimp only [List.map, putF, rd, Frame.get]
    refine made_use hMd (s := editLast t (es.take j)) (e := e) hmay ?_
    refine s_no ?_
    try dsimp only [putF, rd, Frame.get]
    first | refine r_op (o_nilchk rfl (s_no ?_)) | refine r_op (o_nilchkR rfl (s_no ?_)) | refine r_op (o_nilchkF rfl (s_no ?_)) | refine r_op (o_nilchkM rfl (s_no ?_))
    try dsimp only [putF, rd, Frame.get]
    first | refine r_op (o_faddr rfl (s_no ?_)) | refine r_op (o_faddrR rfl (s_no ?_))
    try dsimp only [putF, rd, Frame.get]
    try simp only [Nat.zero_mul, Nat.mul_zero, Nat.mul_one, Nat.add_zero, Nat.zero_add, Nat.sub_zero, Nat.reduceAdd, Nat.reduceMul]
    first | refine r_op (o_store hS rfl rfl rfl rfl (by simp) fun S hS => s_no ?_) | refine r_op (o_store hS rfl rfl rfl rfl (by assumption) fun S hS => s_no ?_)
    try dsimp only [putF, rd, Frame.get]
    try dsimp only [putF, rd, Frame.get, setCells, over] at hS
    refine r_nil (c_keep ?_)
    try dsimp only [List.map]
    try dsimp only [putF, rd, Frame.get]
    repeat (with_reducible first | refine c_seq ?_ | refine on_n ?_ | refine c_skip ?_ | refine c_block ?_ | refine on_r ?_ | refine c_ret ?_ | refine c_exit ?_ | refine on_e ?_ | refine ob_e ?_ | refine ob_n ?_ | refine ob_r ?_ | refine ob_x rfl ?_)
    refine c_ops ?_
    refine r_op (o_bin rfl (by first | trivial | (unfold inI64; omega)) (s_no ?_))
    try dsimp only [putF, rd, Frame.get]
    refine r_op (o_mov (s_no ?_))
    try dsimp only [putF, rd, Frame.get]
    refine r_nil (c_keep ?_)
    try dsimp only [List.map]
    try dsimp only [putF, rd, Frame.get]
    repeat (with_reducible first | refine c_seq ?_ | refine on_n ?_ | refine c_skip ?_ | refine c_block ?_ | refine on_r ?_ | refine c_ret ?_ | refine c_exit ?_ | refine on_e ?_ | refine ob_e ?_ | refine ob_n ?_ | refine ob_r ?_ | refine ob_x rfl ?_)
    rw [← hnext] at hS
    exact ⟨es.length - (j + 1), by omega, j + 1, rfl, by omega, rfl, hS.right⟩
  · obtain rfl : j = es.length := by omega
    rw [List.take_of_length_le (Nat.le_refl _)] at hS
    repeat (with_reducible first | refine c_seq ?_ | refine on_n ?_ | refine c_skip ?_ | refine c_block ?_ | refine on_r ?_ | refine c_ret ?_ | refine c_exit ?_ | refine on_e ?_ | refine ob_e ?_ | refine ob_n ?_ | refine ob_r ?_ | refine ob_x rfl ?_)
    refine c_ops ?_
    refine r_op (o_mov (s_no ?_))
    try dsimp only [putF, rd, Frame.get]
    first | refine r_op (o_nilchk rfl (s_no ?_)) | refine r_op (o_nilchkR rfl (s_no ?_)) | refine r_op (o_nilchkF rfl (s_no ?_)) | refine r_op (o_nilchkM rfl (s_no ?_))
    try dsimp only [putF, rd, Frame.get]
    first | refine r_op (o_faddr rfl (s_no ?_)) | refine r_op (o_faddrR rfl (s_no ?_))
    try dsimp only [putF, rd, Frame.get]
    try simp only [Nat.zero_mul, Nat.mul_zero, Nat.mul_one, Nat.add_zero, Nat.zero_add, Nat.sub_zero, Nat.reduceAdd, Nat.reduceMul]
    first | refine r_op (o_store hS rfl rfl rfl rfl (by simp) fun S hS => s_no ?_) | refine r_op (o_store hS rfl rfl rfl rfl (by assumption) fun S hS => s_no ?_)
    try dsimp only [putF, rd, Frame.get]
    try dsimp only [putF, rd, Frame.get, setCells, over] at hS
    refine r_nil (c_keep ?_)
    try dsimp only [List.map]
    try dsimp only [putF, rd, Frame.get]
    repeat (with_reducible first | refine c_seq ?_ | refine on_n ?_ | refine c_skip ?_ | refine c_block ?_ | refine on_r ?_ | refine c_ret ?_ | refine c_exit ?_ | refine on_e ?_ | refine ob_e ?_ | refine ob_n ?_ | refine ob_r ?_ | refine ob_x rfl ?_)
    refine c_ops ?_
    refine r_op (o_mov (s_no ?_))
    try dsimp only [putF, rd, Frame.get]
    refine r_op (o_mov (s_no ?_))
    try dsimp only [putF, rd, Frame.get]
    refine r_nil (c_keep ?_)
    try dsimp only [List.map]
    try dsimp only [putF, rd, Frame.get]
    repeat (with_reducible first | refine c_seq ?_ | refine on_n ?_ | refine c_skip ?_ | refine c_block ?_ | refine on_r ?_ | refine c_ret ?_ | refine c_exit ?_ | refine on_e ?_ | refine ob_e ?_ | refine ob_n ?_ | refine ob_r ?_ | refine ob_x rfl ?_)
    dsimp only
    unfold __hist_History__change_r
    refine w_tmp (w_nil ?_)
    dsimp only [retV, Frame.get]
    exact ⟨_, ⟨rfl, rfl⟩, hS⟩
end Go.Proofs.Yteifemonokemgaa.H
