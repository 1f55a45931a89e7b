/- The functions of a rope, walked: ropes are memory that no one writes any more. Conditions: none. -/
import Derived.Test.YtgiglabejffciaaGH
import Derived.Test.YtgiglabejffciaaVh4
import Derived.Test.YtgiglabejffciaaVpRQ
set_option linter.unusedVariables false
set_option linter.unusedSimpArgs false
set_option maxRecDepth 100000
set_option maxHeartbeats 1000000
namespace Go.Proofs.Ytgiglabejffciaa.H
open Go.Vc Go.Fu
def cellsOf (s : Bytes) (parts : AVal) (d : Nat) (t : Bytes) : List AVal :=
  [.str s, parts, .int .i64 (d : Int), .int .i64 (posOf t).1, .int .i64 (posOf t).2.1, .int .i64 (posOf t).2.2, .int .i64 (polyOf t).1, .int .i64 (polyOf t).2]
def ropeS : Rp → Bytes
  | .leaf s => s
  | .node _ _ => []
def ropeP : Rp → AVal
  | .leaf _ => .nilp
  | .node a b => .rop [.rop (cellsOf (ropeS a) (ropeP a) a.deep a.txt), .rop (cellsOf (ropeS b) (ropeP b) b.deep b.txt)]
abbrev ropeA (r : Rp) : AVal := .rop (cellsOf (ropeS r) (ropeP r) r.deep r.txt)
abbrev ropeO (r : Ro) : AVal := match r with
  | none => .nilp
  | some r => ropeA r
theorem deref_rope (S : Store) (n : Nat) (r : Rp) : deref S n (ropeA r) = ropeA r := by cases n <;> rfl
theorem deref_ropeO (S : Store) (n : Nat) (r : Ro) : deref S n (ropeO r) = ropeO r := by cases r <;> cases n <;> rfl
/-- Sound and not long. -/
def Sm (r : Rp) : Prop := r.bal ∧ r.txt.length ≤ 1000000
theorem Sm.deep {r : Rp} (h : Sm r) : r.deep ≤ 40 := deep_le h.1 (k := 20) (by have := h.2; omega)
def SmO (r : Ro) : Prop := ∀ x, r = some x → Sm x
theorem pos_use (hC : Con Try.prog f_pos_Of pos_Of_ct) {s : Bytes} {S : Store} {K : AVal → Store → Prop} (hs : s.length ≤ 1000000) (h : K (.agg [.int .i64 (posOf s).1, .int .i64 (posOf s).2.1, .int .i64 (posOf s).2.2]) S) : ACalls Try.prog f_pos_Of [.str s] S K := hC.plain s (show s.length ≤ 140737488351232 by omega) rfl h
theorem poly_use (hC : Con Try.prog f_poly_Of poly_Of_ct) {s : Bytes} {S : Store} {K : AVal → Store → Prop} (hs : s.length ≤ 1000000) (h : K (.agg [.int .i64 (polyOf s).1, .int .i64 (polyOf s).2]) S) : ACalls Try.prog f_poly_Of [.str s] S K := hC.plain s (show s.length ≤ 140737488351232 by omega) rfl h
theorem posJ_use (hC : Con Try.prog f_pos_Join pos_Join_ct) {s t : Bytes} {S : Store} {K : AVal → Store → Prop} (hs : s.length + t.length ≤ 1000000) (h : K (.tup [.agg [.int .i64 (posOf (s ++ t)).1, .int .i64 (posOf (s ++ t)).2.1, .int .i64 (posOf (s ++ t)).2.2], .int .i64 0]) S) :
    ACalls Try.prog f_pos_Join [.agg [.int .i64 (posOf s).1, .int .i64 (posOf s).2.1, .int .i64 (posOf s).2.2], .agg [.int .i64 (posOf t).1, .int .i64 (posOf t).2.1, .int .i64 (posOf t).2.2]] S K :=
  hC.plain (posOf s, posOf t) trivial rfl (by
    show K (retA (encsR pos_Join_ct.res (posJoin (posOf s) (posOf t)))) S
    rw [posJoin_of (by omega)]; exact h)
theorem polyJ_use (hC : Con Try.prog f_poly_Join poly_Join_ct) {s t : Bytes} {S : Store} {K : AVal → Store → Prop} (h : K (.tup [.agg [.int .i64 (polyOf (s ++ t)).1, .int .i64 (polyOf (s ++ t)).2], .int .i64 0]) S) :
    ACalls Try.prog f_poly_Join [.agg [.int .i64 (polyOf s).1, .int .i64 (polyOf s).2], .agg [.int .i64 (polyOf t).1, .int .i64 (polyOf t).2]] S K :=
  hC.plain (polyOf s, polyOf t) trivial rfl (by
    show K (retA (encsR poly_Join_ct.res (polyJoin (polyOf s) (polyOf t)))) S
    rw [polyJoin_of]; exact h)

theorem len_rc {r : Ro} : RC Try.prog f___rope_Rope__Len [ropeO r] (.int .i64 ((txtO r).length : Int)) := by
  refine RC.of (R := fun r' _ => r' = .int .i64 ((txtO r).length : Int)) 0 ?_ fun r m' S' h _ => h
  intro S mf hS
  refine __rope_Rope__Len_ok.out rfl ?_ (by simp [__rope_Rope__Len_fi])
  unfold vcFun __rope_Rope__Len_fi
  dsimp only
  unfold __rope_Rope__Len_c
  dsimp only [argF]
  cases r with
  | none =>
    with_reducible (refine c_seq ?_)
    refine c_ops ?_
    refine r_op (o_mov (s_no ?_))
    dsimp only [putF, rd, Frame.get]
    refine r_nil (c_keep ?_)
    dsimp only [List.map]
    dsimp only [putF, rd, Frame.get]
    with_reducible (refine on_n ?_; refine c_seq ?_; refine c_seq ?_)
    refine c_ops ?_
    refine r_op (o_mov (s_no ?_))
    dsimp only [putF, rd, Frame.get]
    refine r_op (o_bin rfl (by first | trivial | (unfold inI64; omega)) (s_no ?_))
    dsimp only [putF, rd, Frame.get]
    refine r_nil (c_keep ?_)
    dsimp only [List.map]
    dsimp only [putF, rd, Frame.get]
    with_reducible (refine on_n ?_)
    refine c_bool rfl (fun _ => ?_) (fun hb => by cases hb)
    with_reducible (refine c_seq ?_)
    refine c_ops ?_
    refine r_op (o_mov (s_no ?_))
    dsimp only [putF, rd, Frame.get]
    refine r_nil (c_keep ?_)
    dsimp only [List.map]
    dsimp only [putF, rd, Frame.get]
    with_reducible (refine on_n ?_; refine c_ret ?_; refine on_r ?_)
    try dsimp only
    unfold __rope_Rope__Len_r
    refine w_tmp (w_nil ?_)
    dsimp only [retV, Frame.get]
    exact ⟨_, rfl, hS⟩
  | some r =>
    dsimp only [ropeO]
    with_reducible (refine c_seq ?_)
    refine c_ops ?_
    refine r_op (o_mov (s_no ?_))
    dsimp only [putF, rd, Frame.get]
    refine r_nil (c_keep ?_)
    dsimp only [List.map]
    dsimp only [putF, rd, Frame.get]
    with_reducible (refine on_n ?_; refine c_seq ?_; refine c_seq ?_)
    refine c_ops ?_
    refine r_op (o_mov (s_no ?_))
    dsimp only [putF, rd, Frame.get]
    refine r_op (o_bin rfl (by first | trivial | (unfold inI64; omega)) (s_no ?_))
    dsimp only [putF, rd, Frame.get]
    refine r_nil (c_keep ?_)
    dsimp only [List.map]
    dsimp only [putF, rd, Frame.get]
    with_reducible (refine on_n ?_)
    refine c_bool rfl (fun hb => by cases hb) (fun _ => ?_)
    with_reducible (refine c_skip ?_; refine on_n ?_; refine c_seq ?_)
    refine c_ops ?_
    refine r_op (o_mov (s_no ?_))
    dsimp only [putF, rd, Frame.get]
    refine r_op (o_nilchkR rfl (s_no ?_))
    dsimp only [putF, rd, Frame.get]
    refine r_op (o_faddrR rfl (s_no ?_))
    dsimp only [putF, rd, Frame.get]
    refine r_op (o_faddrR rfl (s_no ?_))
    dsimp only [putF, rd, Frame.get]
    refine r_op (o_loadR rfl rfl rfl (s_no ?_))
    dsimp only [putF, rd, Frame.get]
    refine r_op (o_mov (s_no ?_))
    dsimp only [putF, rd, Frame.get]
    refine r_nil (c_keep ?_)
    dsimp only [List.map]
    dsimp only [putF, rd, Frame.get]
    with_reducible (refine on_n ?_; refine c_ret ?_)
    try dsimp only
    unfold __rope_Rope__Len_r
    refine w_tmp (w_nil ?_)
    dsimp only [retV, Frame.get]
    exact ⟨HM.nil, by rw [(posOf_bd r.txt).1]; rfl, hS⟩

theorem leaf_rc (hP : Con Try.prog f_pos_Of pos_Of_ct) (hH : Con Try.prog f_poly_Of poly_Of_ct) {s : Bytes} (hs : s.length ≤ 1000000) : RC Try.prog f_rope_leaf [.str s] (ropeA (.leaf s)) := by
  refine RC.of (R := fun r m => ∃ l v X, r = .ptr l v 0 ∧ m = pt l (.row v 0 (cellsOf s .nilp 1 s)) + X) 1 ?_ ?_
  · intro S mf hS
    refine rope_leaf_ok.out rfl ?_ (by simp [rope_leaf_fi])
    unfold vcFun rope_leaf_fi
    dsimp only
    unfold rope_leaf_c
    dsimp only [argF]
    with_reducible (refine c_seq ?_)
    refine c_ops ?_
    refine r_op (o_mov (s_no ?_))
    dsimp only [putF, rd, Frame.get]
    refine r_nil (c_keep ?_)
    dsimp only [List.map]
    dsimp only [putF, rd, Frame.get]
    with_reducible (refine on_n ?_; refine c_seq ?_)
    refine c_ops ?_
    refine r_op (o_mov (s_no ?_))
    dsimp only [putF, rd, Frame.get]
    refine r_op (o_mov (s_no ?_))
    dsimp only [putF, rd, Frame.get]
    refine r_op (o_call ?_)
    dsimp only [List.map, putF, rd, Frame.get]
    refine pos_use hP hs ?_
    refine s_no ?_
    refine r_op (o_mov (s_no ?_))
    dsimp only [putF, rd, Frame.get]
    refine r_op (o_call ?_)
    dsimp only [List.map, putF, rd, Frame.get]
    refine poly_use hH hs ?_
    refine s_no ?_
    refine r_op (o_build rfl (s_no ?_))
    dsimp only [putF, rd, Frame.get, setCells, over]
    refine r_op (o_box hS rfl fun v9 l9 S hS => s_no ?_)
    dsimp only [putF, rd, Frame.get]
    refine r_op (o_mov (s_no ?_))
    dsimp only [putF, rd, Frame.get]
    refine r_nil (c_keep ?_)
    dsimp only [List.map]
    dsimp only [putF, rd, Frame.get]
    with_reducible (refine on_n ?_; refine c_ret ?_)
    try dsimp only
    unfold rope_leaf_r
    refine w_tmp (w_nil ?_)
    dsimp only [retV, Frame.get]
    exact ⟨_, ⟨_, _, HM.nil, rfl, rfl⟩, hS.as1⟩
  · rintro r m' S' ⟨l, v, X, rfl, rfl⟩ hS
    simp only [deref, hS.get, if_true, List.drop_zero]
    rfl

theorem node_rc (hP : Con Try.prog f_pos_Join pos_Join_ct) (hH : Con Try.prog f_poly_Join poly_Join_ct) {a b : Rp} (hl : a.txt.length + b.txt.length ≤ 1000000) (ha : a.deep ≤ 1000) (hb : b.deep ≤ 1000) : RC Try.prog f_rope_node [ropeA a, ropeA b] (ropeA (.node a b)) := by
  refine RC.of (R := fun r m => ∃ l v l2 v2 X, r = .ptr l v 0 ∧ m = pt l (.row v 0 (cellsOf [] (.ptr l2 v2 0) (max a.deep b.deep + 1) (a.txt ++ b.txt))) + (pt l2 (.row v2 1 [ropeA a, ropeA b]) + X)) 2 ?_ ?_
  · intro S mf hS
    refine rope_node_ok.out rfl ?_ (by simp [rope_node_fi])
    unfold vcFun rope_node_fi
    dsimp only
    unfold rope_node_c
    dsimp only [argF]
    with_reducible (refine c_seq ?_)
    refine c_ops ?_
    refine r_op (o_mov (s_no ?_))
    dsimp only [putF, rd, Frame.get]
    refine r_nil (c_keep ?_)
    dsimp only [List.map]
    dsimp only [putF, rd, Frame.get]
    with_reducible (refine on_n ?_; refine c_seq ?_)
    refine c_opsD0 hS fun S hS => ?_
    refine d_zero ?_
    refine r_op (o_mov (s_no ?_))
    dsimp only [putF, rd, Frame.get]
    refine r_op (o_mov (s_no ?_))
    dsimp only [putF, rd, Frame.get]
    refine r_op (o_build rfl (s_no ?_))
    dsimp only [putF, rd, Frame.get, setCells, over]
    refine r_op (o_mov (s_no ?_))
    dsimp only [putF, rd, Frame.get]
    refine r_op (o_nilchkR rfl (s_no ?_))
    dsimp only [putF, rd, Frame.get]
    refine r_op (o_faddrR rfl (s_no ?_))
    dsimp only [putF, rd, Frame.get]
    refine r_op (o_loadR rfl rfl rfl (s_no ?_))
    dsimp only [putF, rd, Frame.get]
    refine r_op (o_mov (s_no ?_))
    dsimp only [putF, rd, Frame.get]
    refine r_op (o_nilchkR rfl (s_no ?_))
    dsimp only [putF, rd, Frame.get]
    refine r_op (o_faddrR rfl (s_no ?_))
    dsimp only [putF, rd, Frame.get]
    refine r_op (o_loadR rfl rfl rfl (s_no ?_))
    dsimp only [putF, rd, Frame.get]
    refine r_op (o_max rfl rfl (s_no ?_))
    dsimp only [putF, rd, Frame.get]
    refine r_op (o_bin rfl (by first | trivial | (unfold inI64; omega)) (s_no ?_))
    dsimp only [putF, rd, Frame.get]
    refine r_op (o_box hS rfl fun v9 l9 S hS => s_no ?_)
    dsimp only [putF, rd, Frame.get]
    refine r_op (o_build rfl (s_no ?_))
    dsimp only [putF, rd, Frame.get, setCells, over]
    refine r_op (o_box hS rfl fun v21 l21 S hS => s_no ?_)
    dsimp only [putF, rd, Frame.get]
    refine r_op (o_mov (s_no ?_))
    dsimp only [putF, rd, Frame.get]
    refine r_nil (c_keep ?_)
    dsimp only [List.map]
    dsimp only [putF, rd, Frame.get]
    with_reducible (refine on_n ?_; refine c_seq ?_)
    refine c_opsD0 hS fun S hS => ?_
    refine d_zero ?_
    refine r_op (o_mov (s_no ?_))
    dsimp only [putF, rd, Frame.get]
    refine r_op (o_mov (s_no ?_))
    dsimp only [putF, rd, Frame.get]
    refine r_op (o_nilchkR rfl (s_no ?_))
    dsimp only [putF, rd, Frame.get]
    refine r_op (o_faddrR rfl (s_no ?_))
    dsimp only [putF, rd, Frame.get]
    refine r_op (o_loadR rfl rfl rfl (s_no ?_))
    dsimp only [putF, rd, Frame.get]
    refine r_op (o_mov (s_no ?_))
    dsimp only [putF, rd, Frame.get]
    refine r_op (o_nilchkR rfl (s_no ?_))
    dsimp only [putF, rd, Frame.get]
    refine r_op (o_faddrR rfl (s_no ?_))
    dsimp only [putF, rd, Frame.get]
    refine r_op (o_loadR rfl rfl rfl (s_no ?_))
    dsimp only [putF, rd, Frame.get]
    refine r_op (o_call ?_)
    dsimp only [List.map, putF, rd, Frame.get]
    refine posJ_use hP hl ?_
    refine s_no ?_
    refine r_op (o_mov (s_no ?_))
    dsimp only [putF, rd, Frame.get]
    refine r_op (o_extract rfl rfl (s_no ?_))
    dsimp only [putF, rd, Frame.get]
    refine r_op (o_extract rfl rfl (s_no ?_))
    dsimp only [putF, rd, Frame.get]
    refine r_op (o_nilchk rfl (s_no ?_))
    dsimp only [putF, rd, Frame.get]
    refine r_op (o_faddr rfl (s_no ?_))
    dsimp only [putF, rd, Frame.get]
    simp only [Nat.zero_mul, Nat.mul_zero, Nat.mul_one, Nat.add_zero, Nat.zero_add, Nat.sub_zero, Nat.reduceAdd, Nat.reduceMul]
    refine r_op (o_store hS rfl rfl rfl rfl (by simp) fun S hS => s_no ?_)
    dsimp only [putF, rd, Frame.get]
    dsimp only [putF, rd, Frame.get, setCells, over] at hS
    refine r_nil (c_keep ?_)
    dsimp only [List.map]
    dsimp only [putF, rd, Frame.get]
    with_reducible (refine on_n ?_; refine c_seq ?_)
    refine c_opsD0 hS fun S hS => ?_
    refine d_zero ?_
    refine r_op (o_mov (s_no ?_))
    dsimp only [putF, rd, Frame.get]
    refine r_op (o_mov (s_no ?_))
    dsimp only [putF, rd, Frame.get]
    refine r_op (o_nilchkR rfl (s_no ?_))
    dsimp only [putF, rd, Frame.get]
    refine r_op (o_faddrR rfl (s_no ?_))
    dsimp only [putF, rd, Frame.get]
    refine r_op (o_loadR rfl rfl rfl (s_no ?_))
    dsimp only [putF, rd, Frame.get]
    refine r_op (o_mov (s_no ?_))
    dsimp only [putF, rd, Frame.get]
    refine r_op (o_nilchkR rfl (s_no ?_))
    dsimp only [putF, rd, Frame.get]
    refine r_op (o_faddrR rfl (s_no ?_))
    dsimp only [putF, rd, Frame.get]
    refine r_op (o_loadR rfl rfl rfl (s_no ?_))
    dsimp only [putF, rd, Frame.get]
    refine r_op (o_call ?_)
    dsimp only [List.map, putF, rd, Frame.get]
    refine polyJ_use hH ?_
    refine s_no ?_
    refine r_op (o_mov (s_no ?_))
    dsimp only [putF, rd, Frame.get]
    refine r_op (o_extract rfl rfl (s_no ?_))
    dsimp only [putF, rd, Frame.get]
    refine r_op (o_extract rfl rfl (s_no ?_))
    dsimp only [putF, rd, Frame.get]
    refine r_op (o_nilchk rfl (s_no ?_))
    dsimp only [putF, rd, Frame.get]
    refine r_op (o_faddr rfl (s_no ?_))
    dsimp only [putF, rd, Frame.get]
    simp only [Nat.zero_mul, Nat.mul_zero, Nat.mul_one, Nat.add_zero, Nat.zero_add, Nat.sub_zero, Nat.reduceAdd, Nat.reduceMul]
    refine r_op (o_store hS rfl rfl rfl rfl (by simp) fun S hS => s_no ?_)
    dsimp only [putF, rd, Frame.get]
    dsimp only [putF, rd, Frame.get, setCells, over] at hS
    refine r_nil (c_keep ?_)
    dsimp only [List.map]
    dsimp only [putF, rd, Frame.get]
    with_reducible (refine on_n ?_; refine c_seq ?_)
    refine c_ops ?_
    refine r_op (o_mov (s_no ?_))
    dsimp only [putF, rd, Frame.get]
    refine r_op (o_mov (s_no ?_))
    dsimp only [putF, rd, Frame.get]
    refine r_nil (c_keep ?_)
    dsimp only [List.map]
    dsimp only [putF, rd, Frame.get]
    with_reducible (refine on_n ?_; refine c_ret ?_)
    try dsimp only
    unfold rope_node_r
    refine w_tmp (w_nil ?_)
    dsimp only [retV, Frame.get]
    rw [show max (a.deep : Int) (b.deep : Int) + 1 = ((max a.deep b.deep + 1 : Nat) : Int) by omega] at hS
    exact ⟨_, ⟨_, _, _, _, HM.nil, rfl, rfl⟩, hS.as2⟩
  · rintro r m' S' ⟨l, v, l2, v2, X, rfl, rfl⟩ hS
    have h2 := hS.right.get
    simp only [deref, hS.get, h2, if_true, List.drop_zero, cellsOf, List.map_cons, List.map_nil, deref_rope]
    rfl

theorem new_rc (hP : Con Try.prog f_pos_Of pos_Of_ct) (hH : Con Try.prog f_poly_Of poly_Of_ct) (hPJ : Con Try.prog f_pos_Join pos_Join_ct) (hHJ : Con Try.prog f_poly_Join poly_Join_ct) : ∀ (n : Nat) (s : Bytes), s.length ≤ n → s.length ≤ 1000000 → RC Try.prog f_rope_New [.str s] (ropeO (if s = [] then none else some (rNew s))) := by
  intro n
  induction n with
  | zero =>
    intro s h hs
    have hs0 : s = [] := List.eq_nil_of_length_eq_zero (by omega)
    rw [if_pos hs0]
    refine RC.val ?_
    intro S mf hS
    refine rope_New_ok.out rfl ?_ (by simp [rope_New_fi])
    unfold vcFun rope_New_fi
    dsimp only
    unfold rope_New_c
    dsimp only [argF]
    with_reducible (refine c_seq ?_)
    refine c_ops ?_
    refine r_op (o_mov (s_no ?_))
    dsimp only [putF, rd, Frame.get]
    refine r_nil (c_keep ?_)
    dsimp only [List.map]
    dsimp only [putF, rd, Frame.get]
    with_reducible (refine on_n ?_; refine c_seq ?_; refine c_block ?_; refine c_seq ?_)
    refine c_ops ?_
    refine r_op (o_mov (s_no ?_))
    dsimp only [putF, rd, Frame.get]
    refine r_op (o_bin rfl (by first | trivial | (unfold inI64; omega)) (s_no ?_))
    dsimp only [putF, rd, Frame.get]
    refine r_op (o_mov (s_no ?_))
    dsimp only [putF, rd, Frame.get]
    refine r_nil (c_keep ?_)
    dsimp only [List.map]
    dsimp only [putF, rd, Frame.get]
    with_reducible (refine on_n ?_)
    refine c_dec rfl (fun _ => ?_) (fun hb => absurd hs0 hb)
    with_reducible (refine c_seq ?_)
    refine c_ops ?_
    refine r_op (o_mov (s_no ?_))
    dsimp only [putF, rd, Frame.get]
    refine r_nil (c_keep ?_)
    dsimp only [List.map]
    dsimp only [putF, rd, Frame.get]
    with_reducible (refine on_n ?_; refine c_ret ?_; refine ob_r ?_; refine on_r ?_)
    try dsimp only
    unfold rope_New_r
    refine w_tmp (w_nil ?_)
    dsimp only [retV, Frame.get]
    exact ⟨_, rfl, hS⟩
  | succ n ih =>
    intro s h hs
    refine RC.val ?_
    intro S mf hS
    refine rope_New_ok.out rfl ?_ (by simp [rope_New_fi])
    unfold vcFun rope_New_fi
    dsimp only
    unfold rope_New_c
    dsimp only [argF]
    with_reducible (refine c_seq ?_)
    refine c_ops ?_
    refine r_op (o_mov (s_no ?_))
    dsimp only [putF, rd, Frame.get]
    refine r_nil (c_keep ?_)
    dsimp only [List.map]
    dsimp only [putF, rd, Frame.get]
    with_reducible (refine on_n ?_; refine c_seq ?_; refine c_block ?_; refine c_seq ?_)
    refine c_ops ?_
    refine r_op (o_mov (s_no ?_))
    dsimp only [putF, rd, Frame.get]
    refine r_op (o_bin rfl (by first | trivial | (unfold inI64; omega)) (s_no ?_))
    dsimp only [putF, rd, Frame.get]
    refine r_op (o_mov (s_no ?_))
    dsimp only [putF, rd, Frame.get]
    refine r_nil (c_keep ?_)
    dsimp only [List.map]
    dsimp only [putF, rd, Frame.get]
    with_reducible (refine on_n ?_)
    refine c_dec rfl (fun hc => ?_) (fun hc => ?_)
    · with_reducible (refine c_seq ?_)
      refine c_ops ?_
      refine r_op (o_mov (s_no ?_))
      dsimp only [putF, rd, Frame.get]
      refine r_nil (c_keep ?_)
      dsimp only [List.map]
      dsimp only [putF, rd, Frame.get]
      with_reducible (refine on_n ?_; refine c_ret ?_; refine ob_r ?_; refine on_r ?_)
      try dsimp only
      unfold rope_New_r
      refine w_tmp (w_nil ?_)
      dsimp only [retV, Frame.get]
      exact ⟨_, by rw [if_pos hc], hS⟩
    with_reducible (refine c_seq ?_)
    refine c_ops ?_
    refine r_op (o_mov (s_no ?_))
    dsimp only [putF, rd, Frame.get]
    refine r_op (o_len rfl (s_no ?_))
    dsimp only [putF, rd, Frame.get]
    refine r_op (o_bin rfl (by first | trivial | (unfold inI64; omega)) (s_no ?_))
    dsimp only [putF, rd, Frame.get]
    refine r_op (o_mov (s_no ?_))
    dsimp only [putF, rd, Frame.get]
    refine r_nil (c_keep ?_)
    dsimp only [List.map]
    dsimp only [putF, rd, Frame.get]
    with_reducible (refine on_n ?_)
    refine c_dec rfl (fun h8 => ?_) (fun h8 => ?_)
    · with_reducible (refine c_seq ?_)
      refine c_ops ?_
      refine r_op (o_mov (s_no ?_))
      dsimp only [putF, rd, Frame.get]
      refine r_op (o_call ?_)
      dsimp only [List.map, putF, rd, Frame.get]
      refine (leaf_rc hP hH hs).use ?_
      refine s_no ?_
      refine r_op (o_mov (s_no ?_))
      dsimp only [putF, rd, Frame.get]
      refine r_nil (c_keep ?_)
      dsimp only [List.map]
      dsimp only [putF, rd, Frame.get]
      with_reducible (refine on_n ?_; refine c_ret ?_; refine ob_r ?_; refine on_r ?_)
      try dsimp only
      unfold rope_New_r
      refine w_tmp (w_nil ?_)
      dsimp only [retV, Frame.get]
      exact ⟨_, by rw [if_neg hc, rNew_small (by omega)], hS⟩
    with_reducible (refine c_skip ?_; refine ob_n ?_; refine on_n ?_; refine c_seq ?_)
    have e2 : Int.tdiv (s.length : Int) 2 = ((s.length / 2 : Nat) : Int) := (Int.ofNat_tdiv _ 2).symm
    refine c_ops ?_
    refine r_op (o_mov (s_no ?_))
    dsimp only [putF, rd, Frame.get]
    refine r_op (o_len rfl (s_no ?_))
    dsimp only [putF, rd, Frame.get]
    refine r_op ?_
    refine o_bin rfl ⟨by decide, by show inI64 _; rw [e2]; unfold inI64; omega⟩ ?_
    refine s_no ?_
    dsimp only [putF, rd, Frame.get]
    refine r_op (o_mov (s_no ?_))
    dsimp only [putF, rd, Frame.get]
    refine r_nil (c_keep ?_)
    dsimp only [List.map]
    dsimp only [putF, rd, Frame.get]
    dsimp only [wMkF]
    rw [e2]
    have l1 : (s.take (s.length / 2)).length = s.length / 2 := by rw [List.length_take]; omega
    have l2 : (s.drop (s.length / 2)).length = s.length - s.length / 2 := by rw [List.length_drop]
    have n1 : s.take (s.length / 2) ≠ [] := fun e => by rw [e] at l1; simp at l1; omega
    have n2 : s.drop (s.length / 2) ≠ [] := fun e => by rw [e] at l2; simp at l2; omega
    have i1 := ih (s.take (s.length / 2)) (by omega) (by omega)
    have i2 := ih (s.drop (s.length / 2)) (by omega) (by omega)
    rw [if_neg n1] at i1
    rw [if_neg n2] at i2
    have t1 := rNew_txt _ (s.take (s.length / 2)) (Nat.le_refl _)
    have t2 := rNew_txt _ (s.drop (s.length / 2)) (Nat.le_refl _)
    have b1 : Sm (rNew (s.take (s.length / 2))) := ⟨rNew_bal _ _ (Nat.le_refl _) n1, by rw [t1]; omega⟩
    have b2 : Sm (rNew (s.drop (s.length / 2))) := ⟨rNew_bal _ _ (Nat.le_refl _) n2, by rw [t2]; omega⟩
    have d1 := b1.deep
    have d2 := b2.deep
    with_reducible (refine on_n ?_; refine c_seq ?_)
    refine c_opsD0 hS fun S hS => ?_
    refine d_zero ?_
    refine r_op (o_mov (s_no ?_))
    dsimp only [putF, rd, Frame.get]
    refine r_op (o_mov (s_no ?_))
    dsimp only [putF, rd, Frame.get]
    refine r_op ?_
    refine o_sliceS rfl ⟨_, rfl⟩ rfl (by omega) (by omega) ?_; rw [List.drop_zero]
    refine s_no ?_
    dsimp only [putF, rd, Frame.get]
    refine r_op (o_mov (s_no ?_))
    dsimp only [putF, rd, Frame.get]
    refine r_op (o_mov (s_no ?_))
    dsimp only [putF, rd, Frame.get]
    refine r_op ?_
    refine o_sliceS rfl rfl ⟨_, rfl⟩ (by omega) (by omega) ?_; rw [List.take_length]
    refine s_no ?_
    dsimp only [putF, rd, Frame.get]
    refine r_op (o_call ?_)
    dsimp only [List.map, putF, rd, Frame.get]
    refine i1.use ?_
    refine s_no ?_
    refine r_op (o_call ?_)
    dsimp only [List.map, putF, rd, Frame.get]
    refine i2.use ?_
    refine s_no ?_
    refine r_op (o_call ?_)
    dsimp only [List.map, putF, rd, Frame.get]
    refine (node_rc hPJ hHJ (by rw [t1, t2]; omega) (by omega) (by omega)).use ?_
    refine s_no ?_
    refine r_op (o_mov (s_no ?_))
    dsimp only [putF, rd, Frame.get]
    refine r_nil (c_keep ?_)
    dsimp only [List.map]
    dsimp only [putF, rd, Frame.get]
    with_reducible (refine on_n ?_; refine c_ret ?_)
    try dsimp only
    unfold rope_New_r
    refine w_tmp (w_nil ?_)
    dsimp only [retV, Frame.get]
    exact ⟨_, by rw [if_neg hc, rNew_big (s := s) (by omega)], hS⟩

theorem bal_rc (hPJ : Con Try.prog f_pos_Join pos_Join_ct) (hHJ : Con Try.prog f_poly_Join poly_Join_ct) {a b : Rp} (ha : a.deep ≤ 40) (hb : b.deep ≤ 40) (hl : a.txt.length + b.txt.length ≤ 1000000) : RC Try.prog f_rope_balanced [ropeA a, ropeA b] (ropeA (rBal a b)) := by
  refine RC.val ?_
  intro S mf hS
  refine rope_balanced_ok.out rfl ?_ (by simp [rope_balanced_fi])
  unfold vcFun rope_balanced_fi
  dsimp only
  unfold rope_balanced_c
  dsimp only [argF]
  with_reducible (refine c_seq ?_)
  refine c_ops ?_
  refine r_op (o_mov (s_no ?_))
  dsimp only [putF, rd, Frame.get]
  refine r_nil (c_keep ?_)
  dsimp only [List.map]
  dsimp only [putF, rd, Frame.get]
  with_reducible (refine on_n ?_; refine c_seq ?_; refine c_block ?_; refine c_seq ?_)
  refine c_opsD0 hS fun S hS => ?_
  refine d_zero ?_
  refine r_op (o_mov (s_no ?_))
  dsimp only [putF, rd, Frame.get]
  refine r_op (o_nilchkR rfl (s_no ?_))
  dsimp only [putF, rd, Frame.get]
  refine r_op (o_faddrR rfl (s_no ?_))
  dsimp only [putF, rd, Frame.get]
  refine r_op (o_loadR rfl rfl rfl (s_no ?_))
  dsimp only [putF, rd, Frame.get]
  refine r_op (o_mov (s_no ?_))
  dsimp only [putF, rd, Frame.get]
  refine r_op (o_nilchkR rfl (s_no ?_))
  dsimp only [putF, rd, Frame.get]
  refine r_op (o_faddrR rfl (s_no ?_))
  dsimp only [putF, rd, Frame.get]
  refine r_op (o_loadR rfl rfl rfl (s_no ?_))
  dsimp only [putF, rd, Frame.get]
  refine r_op (o_bin rfl (by first | trivial | (unfold inI64; omega)) (s_no ?_))
  dsimp only [putF, rd, Frame.get]
  refine r_op (o_bin rfl (by first | trivial | (unfold inI64; omega)) (s_no ?_))
  dsimp only [putF, rd, Frame.get]
  refine r_op (o_mov (s_no ?_))
  dsimp only [putF, rd, Frame.get]
  refine r_nil (c_keep ?_)
  dsimp only [List.map]
  dsimp only [putF, rd, Frame.get]
  with_reducible (refine on_n ?_)
  refine c_dec rfl (fun hc => ?_) (fun hc => ?_)
  · have hc : b.deep + 1 < a.deep := by omega
    have e0 : rBal a b = rBal a b := rfl
    conv at e0 => rhs; unfold rBal
    rw [if_pos hc] at e0
    rw [e0]; clear e0
    cases a with
    | leaf s => exfalso; have := b.deep_pos; simp only [Rp.deep] at hc; omega
    | node x y =>
    simp only [Rp.deep, Rp.txt, List.length_append] at ha hl hc
    have px := x.deep_pos
    with_reducible (refine c_seq ?_)
    refine c_opsD0 hS fun S hS => ?_
    refine d_zero ?_
    refine r_op (o_mov (s_no ?_))
    dsimp only [putF, rd, Frame.get]
    refine r_op (o_nilchkR rfl (s_no ?_))
    dsimp only [putF, rd, Frame.get]
    refine r_op (o_faddrR rfl (s_no ?_))
    dsimp only [putF, rd, Frame.get]
    refine r_op (o_loadR rfl rfl rfl (s_no ?_))
    dsimp only [putF, rd, Frame.get]
    refine r_op (o_nilchkR rfl (s_no ?_))
    dsimp only [putF, rd, Frame.get]
    refine r_op (o_iaddrAR (j := 0) rfl rfl (by omega) (s_no ?_))
    dsimp only [putF, rd, Frame.get]
    simp only [Nat.zero_mul, Nat.mul_zero, Nat.mul_one, Nat.add_zero, Nat.zero_add, Nat.sub_zero, Nat.reduceAdd, Nat.reduceMul]
    refine r_op (o_loadR rfl rfl rfl (s_no ?_))
    dsimp only [putF, rd, Frame.get]
    refine r_op (o_mov (s_no ?_))
    dsimp only [putF, rd, Frame.get]
    refine r_op (o_nilchkR rfl (s_no ?_))
    dsimp only [putF, rd, Frame.get]
    refine r_op (o_faddrR rfl (s_no ?_))
    dsimp only [putF, rd, Frame.get]
    refine r_op (o_loadR rfl rfl rfl (s_no ?_))
    dsimp only [putF, rd, Frame.get]
    refine r_op (o_nilchkR rfl (s_no ?_))
    dsimp only [putF, rd, Frame.get]
    refine r_op (o_iaddrAR (j := 1) rfl rfl (by omega) (s_no ?_))
    dsimp only [putF, rd, Frame.get]
    simp only [Nat.zero_mul, Nat.mul_zero, Nat.mul_one, Nat.add_zero, Nat.zero_add, Nat.sub_zero, Nat.reduceAdd, Nat.reduceMul]
    refine r_op (o_loadR rfl rfl rfl (s_no ?_))
    dsimp only [putF, rd, Frame.get]
    refine r_op (o_mov (s_no ?_))
    dsimp only [putF, rd, Frame.get]
    refine r_op (o_mov (s_no ?_))
    dsimp only [putF, rd, Frame.get]
    refine r_nil (c_keep ?_)
    dsimp only [List.map]
    dsimp only [putF, rd, Frame.get]
    with_reducible (refine on_n ?_; refine c_seq ?_; refine c_seq ?_)
    refine c_opsD0 hS fun S hS => ?_
    refine d_zero ?_
    refine r_op (o_mov (s_no ?_))
    dsimp only [putF, rd, Frame.get]
    refine r_op (o_nilchkR rfl (s_no ?_))
    dsimp only [putF, rd, Frame.get]
    refine r_op (o_faddrR rfl (s_no ?_))
    dsimp only [putF, rd, Frame.get]
    refine r_op (o_loadR rfl rfl rfl (s_no ?_))
    dsimp only [putF, rd, Frame.get]
    refine r_op (o_mov (s_no ?_))
    dsimp only [putF, rd, Frame.get]
    refine r_op (o_nilchkR rfl (s_no ?_))
    dsimp only [putF, rd, Frame.get]
    refine r_op (o_faddrR rfl (s_no ?_))
    dsimp only [putF, rd, Frame.get]
    refine r_op (o_loadR rfl rfl rfl (s_no ?_))
    dsimp only [putF, rd, Frame.get]
    refine r_op (o_bin rfl (by first | trivial | (unfold inI64; omega)) (s_no ?_))
    dsimp only [putF, rd, Frame.get]
    refine r_nil (c_keep ?_)
    dsimp only [List.map]
    dsimp only [putF, rd, Frame.get]
    with_reducible (refine on_n ?_)
    refine c_dec rfl (fun hg => ?_) (fun hg => ?_)
    · with_reducible (refine c_seq ?_)
      refine c_ops ?_
      refine r_op (o_mov (s_no ?_))
      dsimp only [putF, rd, Frame.get]
      refine r_op (o_mov (s_no ?_))
      dsimp only [putF, rd, Frame.get]
      refine r_op (o_mov (s_no ?_))
      dsimp only [putF, rd, Frame.get]
      refine r_op (o_call ?_)
      dsimp only [List.map, putF, rd, Frame.get]
      refine (node_rc hPJ hHJ (a := y) (b := b) (by omega) (by omega) (by omega)).use ?_
      refine s_no ?_
      refine r_op (o_call ?_)
      dsimp only [List.map, putF, rd, Frame.get]
      refine (node_rc hPJ hHJ (a := x) (b := .node y b) (by simp only [Rp.txt, List.length_append]; omega) (by omega) (by simp only [Rp.deep]; omega)).use ?_
      refine s_no ?_
      refine r_op (o_mov (s_no ?_))
      dsimp only [putF, rd, Frame.get]
      refine r_nil (c_keep ?_)
      dsimp only [List.map]
      dsimp only [putF, rd, Frame.get]
      with_reducible (refine on_n ?_; refine c_ret ?_; refine on_r ?_; refine ob_r ?_; refine on_r ?_)
      try dsimp only
      unfold rope_balanced_r
      refine w_tmp (w_nil ?_)
      dsimp only [retV, Frame.get]
      exact ⟨_, by (try dsimp only); rw [if_pos (by omega)], hS⟩
    cases y with
    | leaf s => exfalso; simp only [Rp.deep] at hg; omega
    | node p q =>
    simp only [Rp.deep, Rp.txt, List.length_append] at ha hl hc hg
    with_reducible (refine c_skip ?_; refine on_n ?_; refine c_seq ?_)
    refine c_opsD0 hS fun S hS => ?_
    refine d_op (q_op rfl (o_mov (s_no ?_)))
    dsimp only [putF, rd, Frame.get]
    refine d_op (q_op rfl (o_mov (s_no ?_)))
    dsimp only [putF, rd, Frame.get]
    refine d_op (q_op rfl (o_nilchkR rfl (s_no ?_)))
    dsimp only [putF, rd, Frame.get]
    refine d_op (q_op rfl (o_faddrR rfl (s_no ?_)))
    dsimp only [putF, rd, Frame.get]
    refine d_op (q_op rfl (o_loadR rfl rfl rfl (s_no ?_)))
    dsimp only [putF, rd, Frame.get]
    refine d_op (q_op rfl (o_nilchkR rfl (s_no ?_)))
    dsimp only [putF, rd, Frame.get]
    refine d_op (q_op rfl (o_iaddrAR (j := 0) rfl rfl (by omega) (s_no ?_)))
    dsimp only [putF, rd, Frame.get]
    simp only [Nat.zero_mul, Nat.mul_zero, Nat.mul_one, Nat.add_zero, Nat.zero_add, Nat.sub_zero, Nat.reduceAdd, Nat.reduceMul]
    refine d_op (q_op rfl (o_loadR rfl rfl rfl (s_no ?_)))
    dsimp only [putF, rd, Frame.get]
    refine d_op (q_op rfl (o_mov (s_no ?_)))
    dsimp only [putF, rd, Frame.get]
    refine d_op (q_op rfl (o_nilchkR rfl (s_no ?_)))
    dsimp only [putF, rd, Frame.get]
    refine d_op (q_op rfl (o_faddrR rfl (s_no ?_)))
    dsimp only [putF, rd, Frame.get]
    refine d_op (q_op rfl (o_loadR rfl rfl rfl (s_no ?_)))
    dsimp only [putF, rd, Frame.get]
    refine d_op (q_op rfl (o_nilchkR rfl (s_no ?_)))
    dsimp only [putF, rd, Frame.get]
    refine d_op (q_op rfl (o_iaddrAR (j := 1) rfl rfl (by omega) (s_no ?_)))
    dsimp only [putF, rd, Frame.get]
    simp only [Nat.zero_mul, Nat.mul_zero, Nat.mul_one, Nat.add_zero, Nat.zero_add, Nat.sub_zero, Nat.reduceAdd, Nat.reduceMul]
    refine d_op (q_op rfl (o_loadR rfl rfl rfl (s_no ?_)))
    dsimp only [putF, rd, Frame.get]
    refine d_op (q_op rfl (o_mov (s_no ?_)))
    dsimp only [putF, rd, Frame.get]
    refine d_op (q_call _ (RC.use (node_rc hPJ hHJ (a := x) (b := p) (by omega) (by omega) (by omega)) ⟨rfl, rfl⟩) ?_)
    refine s_no ?_
    dsimp only [putF, rd, Frame.get]
    refine d_zero ?_
    refine r_op (o_call ?_)
    dsimp only [List.map, putF, rd, Frame.get]
    refine (node_rc hPJ hHJ (a := q) (b := b) (by omega) (by omega) (by omega)).use ?_
    refine s_no ?_
    refine r_op (o_call ?_)
    dsimp only [List.map, putF, rd, Frame.get]
    refine (node_rc hPJ hHJ (a := .node x p) (b := .node q b) (by simp only [Rp.txt, List.length_append]; omega) (by simp only [Rp.deep]; omega) (by simp only [Rp.deep]; omega)).use ?_
    refine s_no ?_
    refine r_op (o_mov (s_no ?_))
    dsimp only [putF, rd, Frame.get]
    refine r_nil (c_keep ?_)
    dsimp only [List.map]
    dsimp only [putF, rd, Frame.get]
    with_reducible (refine on_n ?_; refine c_ret ?_; refine ob_r ?_; refine on_r ?_)
    try dsimp only
    unfold rope_balanced_r
    refine w_tmp (w_nil ?_)
    dsimp only [retV, Frame.get]
    exact ⟨_, by (try dsimp only); rw [if_neg (by simp only [Rp.deep]; omega)], hS⟩
  have hc : ¬ b.deep + 1 < a.deep := by omega
  with_reducible (refine c_seq ?_)
  refine c_opsD0 hS fun S hS => ?_
  refine d_zero ?_
  refine r_op (o_mov (s_no ?_))
  dsimp only [putF, rd, Frame.get]
  refine r_op (o_nilchkR rfl (s_no ?_))
  dsimp only [putF, rd, Frame.get]
  refine r_op (o_faddrR rfl (s_no ?_))
  dsimp only [putF, rd, Frame.get]
  refine r_op (o_loadR rfl rfl rfl (s_no ?_))
  dsimp only [putF, rd, Frame.get]
  refine r_op (o_mov (s_no ?_))
  dsimp only [putF, rd, Frame.get]
  refine r_op (o_nilchkR rfl (s_no ?_))
  dsimp only [putF, rd, Frame.get]
  refine r_op (o_faddrR rfl (s_no ?_))
  dsimp only [putF, rd, Frame.get]
  refine r_op (o_loadR rfl rfl rfl (s_no ?_))
  dsimp only [putF, rd, Frame.get]
  refine r_op (o_bin rfl (by first | trivial | (unfold inI64; omega)) (s_no ?_))
  dsimp only [putF, rd, Frame.get]
  refine r_op (o_bin rfl (by first | trivial | (unfold inI64; omega)) (s_no ?_))
  dsimp only [putF, rd, Frame.get]
  refine r_op (o_mov (s_no ?_))
  dsimp only [putF, rd, Frame.get]
  refine r_nil (c_keep ?_)
  dsimp only [List.map]
  dsimp only [putF, rd, Frame.get]
  with_reducible (refine on_n ?_)
  refine c_dec rfl (fun hd => ?_) (fun hd => ?_)
  · have hd : a.deep + 1 < b.deep := by omega
    have e0 : rBal a b = rBal a b := rfl
    conv at e0 => rhs; unfold rBal
    rw [if_neg hc, if_pos hd] at e0
    rw [e0]; clear e0
    cases b with
    | leaf s => exfalso; have := a.deep_pos; simp only [Rp.deep] at hd; omega
    | node x y =>
    simp only [Rp.deep, Rp.txt, List.length_append] at hb hl hc hd
    have py := y.deep_pos
    with_reducible (refine c_seq ?_)
    refine c_opsD0 hS fun S hS => ?_
    refine d_zero ?_
    refine r_op (o_mov (s_no ?_))
    dsimp only [putF, rd, Frame.get]
    refine r_op (o_nilchkR rfl (s_no ?_))
    dsimp only [putF, rd, Frame.get]
    refine r_op (o_faddrR rfl (s_no ?_))
    dsimp only [putF, rd, Frame.get]
    refine r_op (o_loadR rfl rfl rfl (s_no ?_))
    dsimp only [putF, rd, Frame.get]
    refine r_op (o_nilchkR rfl (s_no ?_))
    dsimp only [putF, rd, Frame.get]
    refine r_op (o_iaddrAR (j := 0) rfl rfl (by omega) (s_no ?_))
    dsimp only [putF, rd, Frame.get]
    simp only [Nat.zero_mul, Nat.mul_zero, Nat.mul_one, Nat.add_zero, Nat.zero_add, Nat.sub_zero, Nat.reduceAdd, Nat.reduceMul]
    refine r_op (o_loadR rfl rfl rfl (s_no ?_))
    dsimp only [putF, rd, Frame.get]
    refine r_op (o_mov (s_no ?_))
    dsimp only [putF, rd, Frame.get]
    refine r_op (o_nilchkR rfl (s_no ?_))
    dsimp only [putF, rd, Frame.get]
    refine r_op (o_faddrR rfl (s_no ?_))
    dsimp only [putF, rd, Frame.get]
    refine r_op (o_loadR rfl rfl rfl (s_no ?_))
    dsimp only [putF, rd, Frame.get]
    refine r_op (o_nilchkR rfl (s_no ?_))
    dsimp only [putF, rd, Frame.get]
    refine r_op (o_iaddrAR (j := 1) rfl rfl (by omega) (s_no ?_))
    dsimp only [putF, rd, Frame.get]
    simp only [Nat.zero_mul, Nat.mul_zero, Nat.mul_one, Nat.add_zero, Nat.zero_add, Nat.sub_zero, Nat.reduceAdd, Nat.reduceMul]
    refine r_op (o_loadR rfl rfl rfl (s_no ?_))
    dsimp only [putF, rd, Frame.get]
    refine r_op (o_mov (s_no ?_))
    dsimp only [putF, rd, Frame.get]
    refine r_op (o_mov (s_no ?_))
    dsimp only [putF, rd, Frame.get]
    refine r_nil (c_keep ?_)
    dsimp only [List.map]
    dsimp only [putF, rd, Frame.get]
    with_reducible (refine on_n ?_; refine c_seq ?_; refine c_seq ?_)
    refine c_opsD0 hS fun S hS => ?_
    refine d_zero ?_
    refine r_op (o_mov (s_no ?_))
    dsimp only [putF, rd, Frame.get]
    refine r_op (o_nilchkR rfl (s_no ?_))
    dsimp only [putF, rd, Frame.get]
    refine r_op (o_faddrR rfl (s_no ?_))
    dsimp only [putF, rd, Frame.get]
    refine r_op (o_loadR rfl rfl rfl (s_no ?_))
    dsimp only [putF, rd, Frame.get]
    refine r_op (o_mov (s_no ?_))
    dsimp only [putF, rd, Frame.get]
    refine r_op (o_nilchkR rfl (s_no ?_))
    dsimp only [putF, rd, Frame.get]
    refine r_op (o_faddrR rfl (s_no ?_))
    dsimp only [putF, rd, Frame.get]
    refine r_op (o_loadR rfl rfl rfl (s_no ?_))
    dsimp only [putF, rd, Frame.get]
    refine r_op (o_bin rfl (by first | trivial | (unfold inI64; omega)) (s_no ?_))
    dsimp only [putF, rd, Frame.get]
    refine r_nil (c_keep ?_)
    dsimp only [List.map]
    dsimp only [putF, rd, Frame.get]
    with_reducible (refine on_n ?_)
    refine c_dec rfl (fun hg => ?_) (fun hg => ?_)
    · with_reducible (refine c_seq ?_)
      refine c_ops ?_
      refine r_op (o_mov (s_no ?_))
      dsimp only [putF, rd, Frame.get]
      refine r_op (o_mov (s_no ?_))
      dsimp only [putF, rd, Frame.get]
      refine r_op (o_call ?_)
      dsimp only [List.map, putF, rd, Frame.get]
      refine (node_rc hPJ hHJ (a := a) (b := x) (by omega) (by omega) (by omega)).use ?_
      refine s_no ?_
      refine r_op (o_mov (s_no ?_))
      dsimp only [putF, rd, Frame.get]
      refine r_op (o_call ?_)
      dsimp only [List.map, putF, rd, Frame.get]
      refine (node_rc hPJ hHJ (a := .node a x) (b := y) (by simp only [Rp.txt, List.length_append]; omega) (by simp only [Rp.deep]; omega) (by omega)).use ?_
      refine s_no ?_
      refine r_op (o_mov (s_no ?_))
      dsimp only [putF, rd, Frame.get]
      refine r_nil (c_keep ?_)
      dsimp only [List.map]
      dsimp only [putF, rd, Frame.get]
      with_reducible (refine on_n ?_; refine c_ret ?_; refine on_r ?_; refine ob_r ?_; refine on_r ?_)
      try dsimp only
      unfold rope_balanced_r
      refine w_tmp (w_nil ?_)
      dsimp only [retV, Frame.get]
      exact ⟨_, by (try dsimp only); rw [if_pos (by omega)], hS⟩
    cases x with
    | leaf s => exfalso; simp only [Rp.deep] at hg; omega
    | node p q =>
    simp only [Rp.deep, Rp.txt, List.length_append] at hb hl hc hd hg
    with_reducible (refine c_skip ?_; refine on_n ?_; refine c_seq ?_)
    refine c_opsD0 hS fun S hS => ?_
    refine d_op (q_op rfl (o_mov (s_no ?_)))
    dsimp only [putF, rd, Frame.get]
    refine d_op (q_op rfl (o_mov (s_no ?_)))
    dsimp only [putF, rd, Frame.get]
    refine d_op (q_op rfl (o_nilchkR rfl (s_no ?_)))
    dsimp only [putF, rd, Frame.get]
    refine d_op (q_op rfl (o_faddrR rfl (s_no ?_)))
    dsimp only [putF, rd, Frame.get]
    refine d_op (q_op rfl (o_loadR rfl rfl rfl (s_no ?_)))
    dsimp only [putF, rd, Frame.get]
    refine d_op (q_op rfl (o_nilchkR rfl (s_no ?_)))
    dsimp only [putF, rd, Frame.get]
    refine d_op (q_op rfl (o_iaddrAR (j := 0) rfl rfl (by omega) (s_no ?_)))
    dsimp only [putF, rd, Frame.get]
    simp only [Nat.zero_mul, Nat.mul_zero, Nat.mul_one, Nat.add_zero, Nat.zero_add, Nat.sub_zero, Nat.reduceAdd, Nat.reduceMul]
    refine d_op (q_op rfl (o_loadR rfl rfl rfl (s_no ?_)))
    dsimp only [putF, rd, Frame.get]
    refine d_op (q_op rfl (o_mov (s_no ?_)))
    dsimp only [putF, rd, Frame.get]
    refine d_op (q_op rfl (o_nilchkR rfl (s_no ?_)))
    dsimp only [putF, rd, Frame.get]
    refine d_op (q_op rfl (o_faddrR rfl (s_no ?_)))
    dsimp only [putF, rd, Frame.get]
    refine d_op (q_op rfl (o_loadR rfl rfl rfl (s_no ?_)))
    dsimp only [putF, rd, Frame.get]
    refine d_op (q_op rfl (o_nilchkR rfl (s_no ?_)))
    dsimp only [putF, rd, Frame.get]
    refine d_op (q_op rfl (o_iaddrAR (j := 1) rfl rfl (by omega) (s_no ?_)))
    dsimp only [putF, rd, Frame.get]
    simp only [Nat.zero_mul, Nat.mul_zero, Nat.mul_one, Nat.add_zero, Nat.zero_add, Nat.sub_zero, Nat.reduceAdd, Nat.reduceMul]
    refine d_op (q_op rfl (o_loadR rfl rfl rfl (s_no ?_)))
    dsimp only [putF, rd, Frame.get]
    refine d_op (q_op rfl (o_mov (s_no ?_)))
    dsimp only [putF, rd, Frame.get]
    refine d_op (q_call _ (RC.use (node_rc hPJ hHJ (a := a) (b := p) (by omega) (by omega) (by omega)) ⟨rfl, rfl⟩) ?_)
    refine s_no ?_
    dsimp only [putF, rd, Frame.get]
    refine d_zero ?_
    refine r_op (o_call ?_)
    dsimp only [List.map, putF, rd, Frame.get]
    refine (node_rc hPJ hHJ (a := q) (b := y) (by omega) (by omega) (by omega)).use ?_
    refine s_no ?_
    refine r_op (o_call ?_)
    dsimp only [List.map, putF, rd, Frame.get]
    refine (node_rc hPJ hHJ (a := .node a p) (b := .node q y) (by simp only [Rp.txt, List.length_append]; omega) (by simp only [Rp.deep]; omega) (by simp only [Rp.deep]; omega)).use ?_
    refine s_no ?_
    refine r_op (o_mov (s_no ?_))
    dsimp only [putF, rd, Frame.get]
    refine r_nil (c_keep ?_)
    dsimp only [List.map]
    dsimp only [putF, rd, Frame.get]
    with_reducible (refine on_n ?_; refine c_ret ?_; refine ob_r ?_; refine on_r ?_)
    try dsimp only
    unfold rope_balanced_r
    refine w_tmp (w_nil ?_)
    dsimp only [retV, Frame.get]
    exact ⟨_, by (try dsimp only); rw [if_neg (by simp only [Rp.deep]; omega)], hS⟩
  have hd : ¬ a.deep + 1 < b.deep := by omega
  with_reducible (refine c_skip ?_; refine ob_n ?_; refine on_n ?_; refine c_seq ?_)
  refine c_ops ?_
  refine r_op (o_mov (s_no ?_))
  dsimp only [putF, rd, Frame.get]
  refine r_op (o_mov (s_no ?_))
  dsimp only [putF, rd, Frame.get]
  refine r_op (o_call ?_)
  dsimp only [List.map, putF, rd, Frame.get]
  refine (node_rc hPJ hHJ (a := a) (b := b) (by omega) (by omega) (by omega)).use ?_
  refine s_no ?_
  refine r_op (o_mov (s_no ?_))
  dsimp only [putF, rd, Frame.get]
  refine r_nil (c_keep ?_)
  dsimp only [List.map]
  dsimp only [putF, rd, Frame.get]
  with_reducible (refine on_n ?_; refine c_ret ?_)
  try dsimp only
  unfold rope_balanced_r
  refine w_tmp (w_nil ?_)
  dsimp only [retV, Frame.get]
  exact ⟨_, by unfold rBal; rw [if_neg hc, if_neg hd], hS⟩
theorem tiny_some {a b : Rp} {s : Bytes} (h : rTiny a b = some s) : s = ropeS a ++ ropeS b ∧ (ropeS a).length + (ropeS b).length ≤ 8 := by
  cases a <;> cases b <;> simp only [rTiny] at h <;> first | (cases h; done) | skip
  split at h <;> cases h
  exact ⟨rfl, by simp only [ropeS]; omega⟩

theorem join_rc (hP : Con Try.prog f_pos_Of pos_Of_ct) (hH : Con Try.prog f_poly_Of poly_Of_ct) (hPJ : Con Try.prog f_pos_Join pos_Join_ct) (hHJ : Con Try.prog f_poly_Join poly_Join_ct) : ∀ (n : Nat) (a b : Rp), a.deep + b.deep ≤ n → a.bal → b.bal → a.txt.length + b.txt.length ≤ 1000000 → RC Try.prog f_rope_Join [ropeA a, ropeA b] (ropeA (rJoin a b)) := by
  intro n
  induction n with
  | zero => intro a b h; have := a.deep_pos; omega
  | succ n ih =>
  intro a b h ba bb hl
  have da := Sm.deep (r := a) ⟨ba, by omega⟩
  have db := Sm.deep (r := b) ⟨bb, by omega⟩
  refine RC.val ?_
  intro S mf hS
  refine rope_Join_ok.out rfl ?_ (by simp [rope_Join_fi])
  unfold vcFun rope_Join_fi
  dsimp only
  unfold rope_Join_c
  dsimp only [argF]
  with_reducible (refine c_seq ?_)
  refine c_ops ?_
  refine r_op (o_mov (s_no ?_))
  dsimp only [putF, rd, Frame.get]
  refine r_nil (c_keep ?_)
  dsimp only [List.map]
  dsimp only [putF, rd, Frame.get]
  with_reducible (refine on_n ?_; refine c_seq ?_; refine c_block ?_; refine c_seq ?_)
  refine c_ops ?_
  refine r_op (o_mov (s_no ?_))
  dsimp only [putF, rd, Frame.get]
  refine r_op (o_bin rfl (by first | trivial | (unfold inI64; omega)) (s_no ?_))
  dsimp only [putF, rd, Frame.get]
  refine r_op (o_mov (s_no ?_))
  dsimp only [putF, rd, Frame.get]
  refine r_nil (c_keep ?_)
  dsimp only [List.map]
  dsimp only [putF, rd, Frame.get]
  with_reducible (refine on_n ?_)
  refine c_bool rfl (fun hb => by cases hb) (fun _ => ?_)
  with_reducible (refine c_seq ?_)
  refine c_ops ?_
  refine r_op (o_mov (s_no ?_))
  dsimp only [putF, rd, Frame.get]
  refine r_op (o_bin rfl (by first | trivial | (unfold inI64; omega)) (s_no ?_))
  dsimp only [putF, rd, Frame.get]
  refine r_op (o_mov (s_no ?_))
  dsimp only [putF, rd, Frame.get]
  refine r_nil (c_keep ?_)
  dsimp only [List.map]
  dsimp only [putF, rd, Frame.get]
  with_reducible (refine on_n ?_)
  refine c_bool rfl (fun hb => by cases hb) (fun _ => ?_)
  refine c_cut (fun F S => F = [(0, ropeA a), (1, ropeA b), (13, .bool (rTiny a b).isSome)] ∧ Has S (HM.nil + mf)) ?_ (fun N hN => ?_)
  rotate_left
  · cases a with
    | leaf s =>
      cases b with
      | leaf t =>
        have hl : s.length + t.length ≤ 1000000 := hl
        have hl2 : (ropeS (.leaf s)).length + (ropeS (.leaf t)).length ≤ 1000000 := hl
        refine c_opsD0 hS fun S hS => ?_
        refine d_zero ?_
        refine r_op (o_mov (s_no ?_))
        dsimp only [putF, rd, Frame.get]
        refine r_op (o_nilchkR rfl (s_no ?_))
        dsimp only [putF, rd, Frame.get]
        refine r_op (o_faddrR rfl (s_no ?_))
        dsimp only [putF, rd, Frame.get]
        refine r_op (o_loadR rfl rfl rfl (s_no ?_))
        dsimp only [putF, rd, Frame.get]
        refine r_op (o_bin rfl (by first | trivial | (unfold inI64; omega)) (s_no ?_))
        dsimp only [putF, rd, Frame.get]
        refine r_op ?_
        refine o_mov (s_bool (fun _ => ?_) (fun h => by cases h))
        dsimp only [putF, rd, Frame.get]
        refine r_tt rfl (o_mov (s_no ?_))
        dsimp only [putF, rd, Frame.get]
        refine r_tt rfl (o_nilchkR rfl (s_no ?_))
        dsimp only [putF, rd, Frame.get]
        refine r_tt rfl (o_faddrR rfl (s_no ?_))
        dsimp only [putF, rd, Frame.get]
        refine r_tt rfl (o_loadR rfl rfl rfl (s_no ?_))
        dsimp only [putF, rd, Frame.get]
        refine r_tt rfl (o_bin rfl (by first | trivial | (unfold inI64; omega)) (s_no ?_))
        dsimp only [putF, rd, Frame.get]
        refine r_op (o_pickT rfl (s_no ?_))
        dsimp only [putF, rd, Frame.get]
        refine r_op ?_
        refine o_mov (s_bool (fun _ => ?_) (fun h => by cases h))
        dsimp only [putF, rd, Frame.get]
        refine r_tt rfl (o_mov (s_no ?_))
        dsimp only [putF, rd, Frame.get]
        refine r_tt rfl (o_nilchkR rfl (s_no ?_))
        dsimp only [putF, rd, Frame.get]
        refine r_tt rfl (o_faddrR rfl (s_no ?_))
        dsimp only [putF, rd, Frame.get]
        refine r_tt rfl (o_loadR rfl rfl rfl (s_no ?_))
        dsimp only [putF, rd, Frame.get]
        refine r_tt rfl (o_len rfl (s_no ?_))
        dsimp only [putF, rd, Frame.get]
        refine r_tt rfl (o_mov (s_no ?_))
        dsimp only [putF, rd, Frame.get]
        refine r_tt rfl (o_nilchkR rfl (s_no ?_))
        dsimp only [putF, rd, Frame.get]
        refine r_tt rfl (o_faddrR rfl (s_no ?_))
        dsimp only [putF, rd, Frame.get]
        refine r_tt rfl (o_loadR rfl rfl rfl (s_no ?_))
        dsimp only [putF, rd, Frame.get]
        refine r_tt rfl (o_len rfl (s_no ?_))
        dsimp only [putF, rd, Frame.get]
        refine r_tt rfl (o_bin rfl (by first | trivial | (unfold inI64; omega)) (s_no ?_))
        dsimp only [putF, rd, Frame.get]
        refine r_tt rfl (o_bin rfl (by first | trivial | (unfold inI64; omega)) (s_no ?_))
        dsimp only [putF, rd, Frame.get]
        refine r_op (o_pickT rfl (s_no ?_))
        dsimp only [putF, rd, Frame.get]
        refine r_op (o_mov (s_no ?_))
        dsimp only [putF, rd, Frame.get]
        refine r_nil (c_keep ?_)
        dsimp only [List.map]
        dsimp only [putF, rd, Frame.get]
        refine on_n ?_
        refine hN _ _ ⟨?_, hS⟩
        by_cases h8 : s.length + t.length ≤ 8
        · have e1 : rTiny (.leaf s) (.leaf t) = some (s ++ t) := by simp only [rTiny]; rw [if_pos h8]
          have e2 : decide (((ropeS (.leaf s)).length : Int) + ((ropeS (.leaf t)).length : Int) ≤ 8) = true := decide_eq_true (by show (s.length : Int) + (t.length : Int) ≤ 8; omega)
          rw [e1, e2]; rfl
        · have e1 : rTiny (.leaf s) (.leaf t) = none := by simp only [rTiny]; rw [if_neg h8]
          have e2 : decide (((ropeS (.leaf s)).length : Int) + ((ropeS (.leaf t)).length : Int) ≤ 8) = false := decide_eq_false (by show ¬ (s.length : Int) + (t.length : Int) ≤ 8; omega)
          rw [e1, e2]; rfl
      | node x y =>
        refine c_opsD0 hS fun S hS => ?_
        refine d_zero ?_
        refine r_op (o_mov (s_no ?_))
        dsimp only [putF, rd, Frame.get]
        refine r_op (o_nilchkR rfl (s_no ?_))
        dsimp only [putF, rd, Frame.get]
        refine r_op (o_faddrR rfl (s_no ?_))
        dsimp only [putF, rd, Frame.get]
        refine r_op (o_loadR rfl rfl rfl (s_no ?_))
        dsimp only [putF, rd, Frame.get]
        refine r_op (o_bin rfl (by first | trivial | (unfold inI64; omega)) (s_no ?_))
        dsimp only [putF, rd, Frame.get]
        refine r_op ?_
        refine o_mov (s_bool (fun _ => ?_) (fun h => by cases h))
        dsimp only [putF, rd, Frame.get]
        refine r_tt rfl (o_mov (s_no ?_))
        dsimp only [putF, rd, Frame.get]
        refine r_tt rfl (o_nilchkR rfl (s_no ?_))
        dsimp only [putF, rd, Frame.get]
        refine r_tt rfl (o_faddrR rfl (s_no ?_))
        dsimp only [putF, rd, Frame.get]
        refine r_tt rfl (o_loadR rfl rfl rfl (s_no ?_))
        dsimp only [putF, rd, Frame.get]
        refine r_tt rfl (o_bin rfl (by first | trivial | (unfold inI64; omega)) (s_no ?_))
        dsimp only [putF, rd, Frame.get]
        refine r_op (o_pickT rfl (s_no ?_))
        dsimp only [putF, rd, Frame.get]
        refine r_op ?_
        refine o_mov (s_bool (fun h => by cases h) (fun _ => ?_))
        dsimp only [putF, rd, Frame.get]
        ((with_reducible refine r_st ?_ ?_); (· rfl))
        dsimp only [putF, rd, Frame.get]
        ((with_reducible refine r_st ?_ ?_); (· rfl))
        dsimp only [putF, rd, Frame.get]
        ((with_reducible refine r_st ?_ ?_); (· rfl))
        dsimp only [putF, rd, Frame.get]
        ((with_reducible refine r_st ?_ ?_); (· rfl))
        dsimp only [putF, rd, Frame.get]
        ((with_reducible refine r_st ?_ ?_); (· rfl))
        dsimp only [putF, rd, Frame.get]
        ((with_reducible refine r_st ?_ ?_); (· rfl))
        dsimp only [putF, rd, Frame.get]
        ((with_reducible refine r_st ?_ ?_); (· rfl))
        dsimp only [putF, rd, Frame.get]
        ((with_reducible refine r_st ?_ ?_); (· rfl))
        dsimp only [putF, rd, Frame.get]
        ((with_reducible refine r_st ?_ ?_); (· rfl))
        dsimp only [putF, rd, Frame.get]
        ((with_reducible refine r_st ?_ ?_); (· rfl))
        dsimp only [putF, rd, Frame.get]
        ((with_reducible refine r_st ?_ ?_); (· rfl))
        dsimp only [putF, rd, Frame.get]
        ((with_reducible refine r_st ?_ ?_); (· rfl))
        dsimp only [putF, rd, Frame.get]
        refine r_op (o_pickF rfl (s_no ?_))
        dsimp only [putF, rd, Frame.get]
        refine r_op (o_mov (s_no ?_))
        dsimp only [putF, rd, Frame.get]
        refine r_nil (c_keep ?_)
        dsimp only [List.map]
        dsimp only [putF, rd, Frame.get]
        refine on_n ?_
        exact hN _ _ ⟨rfl, hS⟩
    | node x y =>
      refine c_opsD0 hS fun S hS => ?_
      refine d_zero ?_
      refine r_op (o_mov (s_no ?_))
      dsimp only [putF, rd, Frame.get]
      refine r_op (o_nilchkR rfl (s_no ?_))
      dsimp only [putF, rd, Frame.get]
      refine r_op (o_faddrR rfl (s_no ?_))
      dsimp only [putF, rd, Frame.get]
      refine r_op (o_loadR rfl rfl rfl (s_no ?_))
      dsimp only [putF, rd, Frame.get]
      refine r_op (o_bin rfl (by first | trivial | (unfold inI64; omega)) (s_no ?_))
      dsimp only [putF, rd, Frame.get]
      refine r_op ?_
      refine o_mov (s_bool (fun h => by cases h) (fun _ => ?_))
      dsimp only [putF, rd, Frame.get]
      ((with_reducible refine r_st ?_ ?_); (· rfl))
      dsimp only [putF, rd, Frame.get]
      ((with_reducible refine r_st ?_ ?_); (· rfl))
      dsimp only [putF, rd, Frame.get]
      ((with_reducible refine r_st ?_ ?_); (· rfl))
      dsimp only [putF, rd, Frame.get]
      ((with_reducible refine r_st ?_ ?_); (· rfl))
      dsimp only [putF, rd, Frame.get]
      ((with_reducible refine r_st ?_ ?_); (· rfl))
      dsimp only [putF, rd, Frame.get]
      refine r_op (o_pickF rfl (s_no ?_))
      dsimp only [putF, rd, Frame.get]
      refine r_op ?_
      refine o_mov (s_bool (fun h => by cases h) (fun _ => ?_))
      dsimp only [putF, rd, Frame.get]
      ((with_reducible refine r_st ?_ ?_); (· rfl))
      dsimp only [putF, rd, Frame.get]
      ((with_reducible refine r_st ?_ ?_); (· rfl))
      dsimp only [putF, rd, Frame.get]
      ((with_reducible refine r_st ?_ ?_); (· rfl))
      dsimp only [putF, rd, Frame.get]
      ((with_reducible refine r_st ?_ ?_); (· rfl))
      dsimp only [putF, rd, Frame.get]
      ((with_reducible refine r_st ?_ ?_); (· rfl))
      dsimp only [putF, rd, Frame.get]
      ((with_reducible refine r_st ?_ ?_); (· rfl))
      dsimp only [putF, rd, Frame.get]
      ((with_reducible refine r_st ?_ ?_); (· rfl))
      dsimp only [putF, rd, Frame.get]
      ((with_reducible refine r_st ?_ ?_); (· rfl))
      dsimp only [putF, rd, Frame.get]
      ((with_reducible refine r_st ?_ ?_); (· rfl))
      dsimp only [putF, rd, Frame.get]
      ((with_reducible refine r_st ?_ ?_); (· rfl))
      dsimp only [putF, rd, Frame.get]
      ((with_reducible refine r_st ?_ ?_); (· rfl))
      dsimp only [putF, rd, Frame.get]
      ((with_reducible refine r_st ?_ ?_); (· rfl))
      dsimp only [putF, rd, Frame.get]
      refine r_op (o_pickF rfl (s_no ?_))
      dsimp only [putF, rd, Frame.get]
      refine r_op (o_mov (s_no ?_))
      dsimp only [putF, rd, Frame.get]
      refine r_nil (c_keep ?_)
      dsimp only [List.map]
      dsimp only [putF, rd, Frame.get]
      refine on_n ?_
      exact hN _ _ ⟨by cases b <;> rfl, hS⟩
  rintro _ S ⟨rfl, hS⟩
  refine c_bool rfl (fun ht => ?_) (fun ht => ?_)
  · obtain ⟨s, hs⟩ := Option.isSome_iff_exists.1 ht
    obtain ⟨rfl, h8⟩ := tiny_some hs
    with_reducible (refine c_seq ?_)
    refine c_opsD0 hS fun S hS => ?_
    refine d_zero ?_
    refine r_op (o_mov (s_no ?_))
    dsimp only [putF, rd, Frame.get]
    refine r_op (o_nilchkR rfl (s_no ?_))
    dsimp only [putF, rd, Frame.get]
    refine r_op (o_faddrR rfl (s_no ?_))
    dsimp only [putF, rd, Frame.get]
    refine r_op (o_loadR rfl rfl rfl (s_no ?_))
    dsimp only [putF, rd, Frame.get]
    refine r_op (o_mov (s_no ?_))
    dsimp only [putF, rd, Frame.get]
    refine r_op (o_nilchkR rfl (s_no ?_))
    dsimp only [putF, rd, Frame.get]
    refine r_op (o_faddrR rfl (s_no ?_))
    dsimp only [putF, rd, Frame.get]
    refine r_op (o_loadR rfl rfl rfl (s_no ?_))
    dsimp only [putF, rd, Frame.get]
    refine r_op (o_bin rfl (by first | trivial | (unfold inI64; omega)) (s_no ?_))
    dsimp only [putF, rd, Frame.get]
    refine r_op (o_call ?_)
    dsimp only [List.map, putF, rd, Frame.get]
    refine (leaf_rc hP hH (by rw [List.length_append]; omega)).use ?_
    refine s_no ?_
    refine r_op (o_mov (s_no ?_))
    dsimp only [putF, rd, Frame.get]
    refine r_nil (c_keep ?_)
    dsimp only [List.map]
    dsimp only [putF, rd, Frame.get]
    with_reducible (refine on_n ?_; refine c_ret ?_; refine ob_r ?_; refine on_r ?_)
    try dsimp only
    unfold rope_Join_r
    refine w_tmp (w_nil ?_)
    dsimp only [retV, Frame.get]
    exact ⟨_, by rw [rJoin_tiny hs], hS⟩
  have ht : rTiny a b = none := by simpa using ht
  with_reducible (refine c_seq ?_)
  refine c_opsD0 hS fun S hS => ?_
  refine d_zero ?_
  refine r_op (o_mov (s_no ?_))
  dsimp only [putF, rd, Frame.get]
  refine r_op (o_nilchkR rfl (s_no ?_))
  dsimp only [putF, rd, Frame.get]
  refine r_op (o_faddrR rfl (s_no ?_))
  dsimp only [putF, rd, Frame.get]
  refine r_op (o_loadR rfl rfl rfl (s_no ?_))
  dsimp only [putF, rd, Frame.get]
  refine r_op (o_mov (s_no ?_))
  dsimp only [putF, rd, Frame.get]
  refine r_op (o_nilchkR rfl (s_no ?_))
  dsimp only [putF, rd, Frame.get]
  refine r_op (o_faddrR rfl (s_no ?_))
  dsimp only [putF, rd, Frame.get]
  refine r_op (o_loadR rfl rfl rfl (s_no ?_))
  dsimp only [putF, rd, Frame.get]
  refine r_op (o_bin rfl (by first | trivial | (unfold inI64; omega)) (s_no ?_))
  dsimp only [putF, rd, Frame.get]
  refine r_op (o_bin rfl (by first | trivial | (unfold inI64; omega)) (s_no ?_))
  dsimp only [putF, rd, Frame.get]
  refine r_op (o_mov (s_no ?_))
  dsimp only [putF, rd, Frame.get]
  refine r_nil (c_keep ?_)
  dsimp only [List.map]
  dsimp only [putF, rd, Frame.get]
  with_reducible (refine on_n ?_)
  refine c_dec rfl (fun hc => ?_) (fun hc => ?_)
  · have hc : b.deep + 1 < a.deep := by omega
    cases a with
    | leaf s => exfalso; have := b.deep_pos; simp only [Rp.deep] at hc; omega
    | node x y =>
    rw [rJoin_left hc]
    have ok := rJoin_ok _ y b (Nat.le_refl _) ba.2.1 bb
    have jt := rJoin_txt _ y b (Nat.le_refl _)
    simp only [Rp.deep, Rp.txt, List.length_append] at hl hc da h
    have dj := Sm.deep (r := rJoin y b) ⟨ok.1, by rw [jt, List.length_append]; omega⟩
    with_reducible (refine c_seq ?_)
    refine c_opsD0 hS fun S hS => ?_
    refine d_op (q_op rfl (o_mov (s_no ?_)))
    dsimp only [putF, rd, Frame.get]
    refine d_op (q_op rfl (o_nilchkR rfl (s_no ?_)))
    dsimp only [putF, rd, Frame.get]
    refine d_op (q_op rfl (o_faddrR rfl (s_no ?_)))
    dsimp only [putF, rd, Frame.get]
    refine d_op (q_op rfl (o_loadR rfl rfl rfl (s_no ?_)))
    dsimp only [putF, rd, Frame.get]
    refine d_op (q_op rfl (o_nilchkR rfl (s_no ?_)))
    dsimp only [putF, rd, Frame.get]
    refine d_op (q_op rfl (o_iaddrAR (j := 0) rfl rfl (by omega) (s_no ?_)))
    dsimp only [putF, rd, Frame.get]
    simp only [Nat.zero_mul, Nat.mul_zero, Nat.mul_one, Nat.add_zero, Nat.zero_add, Nat.sub_zero, Nat.reduceAdd, Nat.reduceMul]
    refine d_op (q_op rfl (o_loadR rfl rfl rfl (s_no ?_)))
    dsimp only [putF, rd, Frame.get]
    refine d_op (q_op rfl (o_mov (s_no ?_)))
    dsimp only [putF, rd, Frame.get]
    refine d_op (q_op rfl (o_nilchkR rfl (s_no ?_)))
    dsimp only [putF, rd, Frame.get]
    refine d_op (q_op rfl (o_faddrR rfl (s_no ?_)))
    dsimp only [putF, rd, Frame.get]
    refine d_op (q_op rfl (o_loadR rfl rfl rfl (s_no ?_)))
    dsimp only [putF, rd, Frame.get]
    refine d_op (q_op rfl (o_nilchkR rfl (s_no ?_)))
    dsimp only [putF, rd, Frame.get]
    refine d_op (q_op rfl (o_iaddrAR (j := 1) rfl rfl (by omega) (s_no ?_)))
    dsimp only [putF, rd, Frame.get]
    simp only [Nat.zero_mul, Nat.mul_zero, Nat.mul_one, Nat.add_zero, Nat.zero_add, Nat.sub_zero, Nat.reduceAdd, Nat.reduceMul]
    refine d_op (q_op rfl (o_loadR rfl rfl rfl (s_no ?_)))
    dsimp only [putF, rd, Frame.get]
    refine d_op (q_op rfl (o_mov (s_no ?_)))
    dsimp only [putF, rd, Frame.get]
    refine d_op (q_call _ (RC.use (ih y b (by omega) ba.2.1 bb (by omega)) ⟨rfl, rfl⟩) ?_)
    refine s_no ?_
    dsimp only [putF, rd, Frame.get]
    refine d_zero ?_
    refine r_op (o_call ?_)
    dsimp only [List.map, putF, rd, Frame.get]
    refine (bal_rc hPJ hHJ (a := x) (b := rJoin y b) (by omega) dj (by rw [jt, List.length_append]; omega)).use ?_
    refine s_no ?_
    refine r_op (o_mov (s_no ?_))
    dsimp only [putF, rd, Frame.get]
    refine r_nil (c_keep ?_)
    dsimp only [List.map]
    dsimp only [putF, rd, Frame.get]
    with_reducible (refine on_n ?_; refine c_ret ?_; refine ob_r ?_; refine on_r ?_)
    try dsimp only
    unfold rope_Join_r
    refine w_tmp (w_nil ?_)
    dsimp only [retV, Frame.get]
    exact ⟨_, rfl, hS⟩
  have hc : ¬ b.deep + 1 < a.deep := by omega
  with_reducible (refine c_seq ?_)
  refine c_opsD0 hS fun S hS => ?_
  refine d_zero ?_
  refine r_op (o_mov (s_no ?_))
  dsimp only [putF, rd, Frame.get]
  refine r_op (o_nilchkR rfl (s_no ?_))
  dsimp only [putF, rd, Frame.get]
  refine r_op (o_faddrR rfl (s_no ?_))
  dsimp only [putF, rd, Frame.get]
  refine r_op (o_loadR rfl rfl rfl (s_no ?_))
  dsimp only [putF, rd, Frame.get]
  refine r_op (o_mov (s_no ?_))
  dsimp only [putF, rd, Frame.get]
  refine r_op (o_nilchkR rfl (s_no ?_))
  dsimp only [putF, rd, Frame.get]
  refine r_op (o_faddrR rfl (s_no ?_))
  dsimp only [putF, rd, Frame.get]
  refine r_op (o_loadR rfl rfl rfl (s_no ?_))
  dsimp only [putF, rd, Frame.get]
  refine r_op (o_bin rfl (by first | trivial | (unfold inI64; omega)) (s_no ?_))
  dsimp only [putF, rd, Frame.get]
  refine r_op (o_bin rfl (by first | trivial | (unfold inI64; omega)) (s_no ?_))
  dsimp only [putF, rd, Frame.get]
  refine r_op (o_mov (s_no ?_))
  dsimp only [putF, rd, Frame.get]
  refine r_nil (c_keep ?_)
  dsimp only [List.map]
  dsimp only [putF, rd, Frame.get]
  with_reducible (refine on_n ?_)
  refine c_dec rfl (fun hd => ?_) (fun hd => ?_)
  · have hd : a.deep + 1 < b.deep := by omega
    cases b with
    | leaf s => exfalso; have := a.deep_pos; simp only [Rp.deep] at hd; omega
    | node x y =>
    rw [rJoin_right hd]
    have ok := rJoin_ok _ a x (Nat.le_refl _) ba bb.1
    have jt := rJoin_txt _ a x (Nat.le_refl _)
    simp only [Rp.deep, Rp.txt, List.length_append] at hl hd db h
    have dj := Sm.deep (r := rJoin a x) ⟨ok.1, by rw [jt, List.length_append]; omega⟩
    with_reducible (refine c_seq ?_)
    refine c_opsD0 hS fun S hS => ?_
    refine d_op (q_op rfl (o_mov (s_no ?_)))
    dsimp only [putF, rd, Frame.get]
    refine d_op (q_op rfl (o_mov (s_no ?_)))
    dsimp only [putF, rd, Frame.get]
    refine d_op (q_op rfl (o_nilchkR rfl (s_no ?_)))
    dsimp only [putF, rd, Frame.get]
    refine d_op (q_op rfl (o_faddrR rfl (s_no ?_)))
    dsimp only [putF, rd, Frame.get]
    refine d_op (q_op rfl (o_loadR rfl rfl rfl (s_no ?_)))
    dsimp only [putF, rd, Frame.get]
    refine d_op (q_op rfl (o_nilchkR rfl (s_no ?_)))
    dsimp only [putF, rd, Frame.get]
    refine d_op (q_op rfl (o_iaddrAR (j := 0) rfl rfl (by omega) (s_no ?_)))
    dsimp only [putF, rd, Frame.get]
    simp only [Nat.zero_mul, Nat.mul_zero, Nat.mul_one, Nat.add_zero, Nat.zero_add, Nat.sub_zero, Nat.reduceAdd, Nat.reduceMul]
    refine d_op (q_op rfl (o_loadR rfl rfl rfl (s_no ?_)))
    dsimp only [putF, rd, Frame.get]
    refine d_op (q_op rfl (o_mov (s_no ?_)))
    dsimp only [putF, rd, Frame.get]
    refine d_op (q_op rfl (o_nilchkR rfl (s_no ?_)))
    dsimp only [putF, rd, Frame.get]
    refine d_op (q_op rfl (o_faddrR rfl (s_no ?_)))
    dsimp only [putF, rd, Frame.get]
    refine d_op (q_op rfl (o_loadR rfl rfl rfl (s_no ?_)))
    dsimp only [putF, rd, Frame.get]
    refine d_op (q_op rfl (o_nilchkR rfl (s_no ?_)))
    dsimp only [putF, rd, Frame.get]
    refine d_op (q_op rfl (o_iaddrAR (j := 1) rfl rfl (by omega) (s_no ?_)))
    dsimp only [putF, rd, Frame.get]
    simp only [Nat.zero_mul, Nat.mul_zero, Nat.mul_one, Nat.add_zero, Nat.zero_add, Nat.sub_zero, Nat.reduceAdd, Nat.reduceMul]
    refine d_op (q_op rfl (o_loadR rfl rfl rfl (s_no ?_)))
    dsimp only [putF, rd, Frame.get]
    refine d_op (q_call _ (RC.use (ih a x (by omega) ba bb.1 (by omega)) ⟨rfl, rfl⟩) ?_)
    refine s_no ?_
    dsimp only [putF, rd, Frame.get]
    refine d_zero ?_
    refine r_op (o_call ?_)
    dsimp only [List.map, putF, rd, Frame.get]
    refine (bal_rc hPJ hHJ (a := rJoin a x) (b := y) dj (by omega) (by rw [jt, List.length_append]; omega)).use ?_
    refine s_no ?_
    refine r_op (o_mov (s_no ?_))
    dsimp only [putF, rd, Frame.get]
    refine r_nil (c_keep ?_)
    dsimp only [List.map]
    dsimp only [putF, rd, Frame.get]
    with_reducible (refine on_n ?_; refine c_ret ?_; refine ob_r ?_; refine on_r ?_)
    try dsimp only
    unfold rope_Join_r
    refine w_tmp (w_nil ?_)
    dsimp only [retV, Frame.get]
    exact ⟨_, rfl, hS⟩
  have hd : ¬ a.deep + 1 < b.deep := by omega
  with_reducible (refine c_skip ?_; refine ob_n ?_; refine on_n ?_; refine c_seq ?_)
  refine c_ops ?_
  refine r_op (o_mov (s_no ?_))
  dsimp only [putF, rd, Frame.get]
  refine r_op (o_mov (s_no ?_))
  dsimp only [putF, rd, Frame.get]
  refine r_op (o_call ?_)
  dsimp only [List.map, putF, rd, Frame.get]
  refine (node_rc hPJ hHJ (a := a) (b := b) (by omega) (by omega) (by omega)).use ?_
  refine s_no ?_
  refine r_op (o_mov (s_no ?_))
  dsimp only [putF, rd, Frame.get]
  refine r_nil (c_keep ?_)
  dsimp only [List.map]
  dsimp only [putF, rd, Frame.get]
  with_reducible (refine on_n ?_; refine c_ret ?_)
  try dsimp only
  unfold rope_Join_r
  refine w_tmp (w_nil ?_)
  dsimp only [retV, Frame.get]
  exact ⟨_, by rw [rJoin_mid ht hc hd], hS⟩
theorem joinO_rc (hP : Con Try.prog f_pos_Of pos_Of_ct) (hH : Con Try.prog f_poly_Of poly_Of_ct) (hPJ : Con Try.prog f_pos_Join pos_Join_ct) (hHJ : Con Try.prog f_poly_Join poly_Join_ct) {a b : Ro} (ha : balO a) (hb : balO b) (hl : (txtO a).length + (txtO b).length ≤ 1000000) : RC Try.prog f_rope_Join [ropeO a, ropeO b] (ropeO (rJoinO a b)) := by
  cases a with
  | none =>
    refine RC.val ?_
    intro S mf hS
    refine rope_Join_ok.out rfl ?_ (by simp [rope_Join_fi])
    unfold vcFun rope_Join_fi
    dsimp only
    unfold rope_Join_c
    dsimp only [argF, ropeO]
    with_reducible (refine c_seq ?_)
    refine c_ops ?_
    refine r_op (o_mov (s_no ?_))
    dsimp only [putF, rd, Frame.get]
    refine r_nil (c_keep ?_)
    dsimp only [List.map]
    dsimp only [putF, rd, Frame.get]
    with_reducible (refine on_n ?_; refine c_seq ?_; refine c_block ?_; refine c_seq ?_)
    refine c_ops ?_
    refine r_op (o_mov (s_no ?_))
    dsimp only [putF, rd, Frame.get]
    refine r_op (o_bin rfl (by first | trivial | (unfold inI64; omega)) (s_no ?_))
    dsimp only [putF, rd, Frame.get]
    refine r_op (o_mov (s_no ?_))
    dsimp only [putF, rd, Frame.get]
    refine r_nil (c_keep ?_)
    dsimp only [List.map]
    dsimp only [putF, rd, Frame.get]
    with_reducible (refine on_n ?_)
    refine c_bool rfl (fun _ => ?_) (fun hb => by cases hb)
    with_reducible (refine c_seq ?_)
    refine c_ops ?_
    refine r_op (o_mov (s_no ?_))
    dsimp only [putF, rd, Frame.get]
    refine r_op (o_mov (s_no ?_))
    dsimp only [putF, rd, Frame.get]
    refine r_nil (c_keep ?_)
    dsimp only [List.map]
    dsimp only [putF, rd, Frame.get]
    with_reducible (refine on_n ?_; refine c_ret ?_; refine ob_r ?_; refine on_r ?_)
    try dsimp only
    unfold rope_Join_r
    refine w_tmp (w_nil ?_)
    dsimp only [retV, Frame.get]
    exact ⟨_, by cases b <;> rfl, hS⟩
  | some a =>
    cases b with
    | none =>
      refine RC.val ?_
      intro S mf hS
      refine rope_Join_ok.out rfl ?_ (by simp [rope_Join_fi])
      unfold vcFun rope_Join_fi
      dsimp only
      unfold rope_Join_c
      dsimp only [argF, ropeO]
      with_reducible (refine c_seq ?_)
      refine c_ops ?_
      refine r_op (o_mov (s_no ?_))
      dsimp only [putF, rd, Frame.get]
      refine r_nil (c_keep ?_)
      dsimp only [List.map]
      dsimp only [putF, rd, Frame.get]
      with_reducible (refine on_n ?_; refine c_seq ?_; refine c_block ?_; refine c_seq ?_)
      refine c_ops ?_
      refine r_op (o_mov (s_no ?_))
      dsimp only [putF, rd, Frame.get]
      refine r_op (o_bin rfl (by first | trivial | (unfold inI64; omega)) (s_no ?_))
      dsimp only [putF, rd, Frame.get]
      refine r_op (o_mov (s_no ?_))
      dsimp only [putF, rd, Frame.get]
      refine r_nil (c_keep ?_)
      dsimp only [List.map]
      dsimp only [putF, rd, Frame.get]
      with_reducible (refine on_n ?_)
      refine c_bool rfl (fun hb => by cases hb) (fun _ => ?_)
      with_reducible (refine c_seq ?_)
      refine c_ops ?_
      refine r_op (o_mov (s_no ?_))
      dsimp only [putF, rd, Frame.get]
      refine r_op (o_bin rfl (by first | trivial | (unfold inI64; omega)) (s_no ?_))
      dsimp only [putF, rd, Frame.get]
      refine r_op (o_mov (s_no ?_))
      dsimp only [putF, rd, Frame.get]
      refine r_nil (c_keep ?_)
      dsimp only [List.map]
      dsimp only [putF, rd, Frame.get]
      with_reducible (refine on_n ?_)
      refine c_bool rfl (fun _ => ?_) (fun hb => by cases hb)
      with_reducible (refine c_seq ?_)
      refine c_ops ?_
      refine r_op (o_mov (s_no ?_))
      dsimp only [putF, rd, Frame.get]
      refine r_op (o_mov (s_no ?_))
      dsimp only [putF, rd, Frame.get]
      refine r_nil (c_keep ?_)
      dsimp only [List.map]
      dsimp only [putF, rd, Frame.get]
      with_reducible (refine on_n ?_; refine c_ret ?_; refine ob_r ?_; refine on_r ?_)
      try dsimp only
      unfold rope_Join_r
      refine w_tmp (w_nil ?_)
      dsimp only [retV, Frame.get]
      exact ⟨_, rfl, hS⟩
    | some b => exact join_rc hP hH hPJ hHJ _ a b (Nat.le_refl _) ha hb hl

theorem split_rc (hP : Con Try.prog f_pos_Of pos_Of_ct) (hH : Con Try.prog f_poly_Of poly_Of_ct) (hPJ : Con Try.prog f_pos_Join pos_Join_ct) (hHJ : Con Try.prog f_poly_Join poly_Join_ct) (r : Rp) : ∀ (n : Nat), n ≤ 1000000 → r.bal → r.txt.length ≤ 1000000 → RC Try.prog f_rope_Split [ropeA r, .int .i64 (n : Int)] (.tup [ropeO (rSplit r n).1, ropeO (rSplit r n).2]) := by
  induction r with
  | leaf s =>
    intro n hn hb hl
    refine RC.val ?_
    intro S mf hS
    refine rope_Split_ok.out rfl ?_ (by simp [rope_Split_fi])
    unfold vcFun rope_Split_fi
    dsimp only
    unfold rope_Split_c
    dsimp only [argF]
    with_reducible (refine c_seq ?_)
    refine c_ops ?_
    refine r_op (o_mov (s_no ?_))
    dsimp only [putF, rd, Frame.get]
    refine r_op (o_mov (s_no ?_))
    dsimp only [putF, rd, Frame.get]
    refine r_nil (c_keep ?_)
    dsimp only [List.map]
    dsimp only [putF, rd, Frame.get]
    with_reducible (refine on_n ?_; refine c_seq ?_; refine c_block ?_; refine c_seq ?_)
    refine c_ops ?_
    refine r_op (o_mov (s_no ?_))
    dsimp only [putF, rd, Frame.get]
    refine r_op (o_bin rfl (by first | trivial | (unfold inI64; omega)) (s_no ?_))
    dsimp only [putF, rd, Frame.get]
    refine r_op (o_mov (s_no ?_))
    dsimp only [putF, rd, Frame.get]
    refine r_nil (c_keep ?_)
    dsimp only [List.map]
    dsimp only [putF, rd, Frame.get]
    with_reducible (refine on_n ?_)
    refine c_dec rfl (fun h0 => ?_) (fun h0 => ?_)
    · with_reducible (refine c_seq ?_)
      refine c_ops ?_
      refine r_op (o_mov (s_no ?_))
      dsimp only [putF, rd, Frame.get]
      refine r_op (o_mov (s_no ?_))
      dsimp only [putF, rd, Frame.get]
      refine r_op (o_mov (s_no ?_))
      dsimp only [putF, rd, Frame.get]
      refine r_nil (c_keep ?_)
      dsimp only [List.map]
      dsimp only [putF, rd, Frame.get]
      with_reducible (refine on_n ?_; refine c_ret ?_; refine ob_r ?_; refine on_r ?_)
      try dsimp only
      unfold rope_Split_r
      refine w_tmp (w_tmp (w_nil ?_))
      dsimp only [retV, Frame.get]
      exact ⟨_, by unfold rSplit; rw [if_pos (by omega)], hS⟩
    with_reducible (refine c_seq ?_)
    refine c_ops ?_
    refine r_op (o_mov (s_no ?_))
    dsimp only [putF, rd, Frame.get]
    refine r_op (o_mov (s_no ?_))
    dsimp only [putF, rd, Frame.get]
    refine r_op (o_call ?_)
    dsimp only [List.map, putF, rd, Frame.get]
    refine (len_rc (r := some (.leaf s))).use ?_
    refine s_no ?_
    refine r_op (o_bin rfl (by first | trivial | (unfold inI64; omega)) (s_no ?_))
    dsimp only [putF, rd, Frame.get]
    refine r_op (o_mov (s_no ?_))
    dsimp only [putF, rd, Frame.get]
    refine r_nil (c_keep ?_)
    dsimp only [List.map]
    dsimp only [putF, rd, Frame.get]
    with_reducible (refine on_n ?_)
    refine c_dec rfl (fun h1 => ?_) (fun h1 => ?_)
    · have h1 : (s.length : Int) ≤ (n : Int) := h1
      with_reducible (refine c_seq ?_)
      refine c_ops ?_
      refine r_op (o_mov (s_no ?_))
      dsimp only [putF, rd, Frame.get]
      refine r_op (o_mov (s_no ?_))
      dsimp only [putF, rd, Frame.get]
      refine r_op (o_mov (s_no ?_))
      dsimp only [putF, rd, Frame.get]
      refine r_nil (c_keep ?_)
      dsimp only [List.map]
      dsimp only [putF, rd, Frame.get]
      with_reducible (refine on_n ?_; refine c_ret ?_; refine ob_r ?_; refine on_r ?_)
      try dsimp only
      unfold rope_Split_r
      refine w_tmp (w_tmp (w_nil ?_))
      dsimp only [retV, Frame.get]
      exact ⟨_, by unfold rSplit; rw [if_neg (by omega), if_pos (by omega)], hS⟩
    have h1 : ¬ (s.length : Int) ≤ (n : Int) := h1
    have hl : s.length ≤ 1000000 := hl
    with_reducible (refine c_seq ?_)
    refine c_ops ?_
    refine r_op (o_mov (s_no ?_))
    dsimp only [putF, rd, Frame.get]
    refine r_op (o_nilchkR rfl (s_no ?_))
    dsimp only [putF, rd, Frame.get]
    refine r_op (o_faddrR rfl (s_no ?_))
    dsimp only [putF, rd, Frame.get]
    refine r_op (o_loadR rfl rfl rfl (s_no ?_))
    dsimp only [putF, rd, Frame.get]
    refine r_op (o_bin rfl (by first | trivial | (unfold inI64; omega)) (s_no ?_))
    dsimp only [putF, rd, Frame.get]
    refine r_op (o_mov (s_no ?_))
    dsimp only [putF, rd, Frame.get]
    refine r_nil (c_keep ?_)
    dsimp only [List.map]
    dsimp only [putF, rd, Frame.get]
    with_reducible (refine on_n ?_)
    refine c_bool rfl (fun _ => ?_) (fun hb => by cases hb)
    with_reducible (refine c_seq ?_)
    refine c_opsD0 hS fun S hS => ?_
    refine d_op (q_op rfl (o_mov (s_no ?_)))
    dsimp only [putF, rd, Frame.get]
    refine d_op (q_op rfl (o_nilchkR rfl (s_no ?_)))
    dsimp only [putF, rd, Frame.get]
    refine d_op (q_op rfl (o_faddrR rfl (s_no ?_)))
    dsimp only [putF, rd, Frame.get]
    refine d_op (q_op rfl (o_loadR rfl rfl rfl (s_no ?_)))
    dsimp only [putF, rd, Frame.get]
    refine d_op (q_op rfl (o_mov (s_no ?_)))
    dsimp only [putF, rd, Frame.get]
    refine d_op (q_op rfl ?_)
    refine o_sliceS (s := s) rfl ⟨_, rfl⟩ rfl (by omega) (by omega) ?_; rw [List.drop_zero]
    refine s_no ?_
    dsimp only [putF, rd, Frame.get]
    refine d_op (q_op rfl (o_mov (s_no ?_)))
    dsimp only [putF, rd, Frame.get]
    refine d_op (q_op rfl (o_nilchkR rfl (s_no ?_)))
    dsimp only [putF, rd, Frame.get]
    refine d_op (q_op rfl (o_faddrR rfl (s_no ?_)))
    dsimp only [putF, rd, Frame.get]
    refine d_op (q_op rfl (o_loadR rfl rfl rfl (s_no ?_)))
    dsimp only [putF, rd, Frame.get]
    refine d_op (q_op rfl (o_mov (s_no ?_)))
    dsimp only [putF, rd, Frame.get]
    refine d_op (q_op rfl ?_)
    refine o_sliceS (s := s) rfl rfl ⟨_, rfl⟩ (by omega) (by omega) ?_; rw [List.take_length]
    refine s_no ?_
    dsimp only [putF, rd, Frame.get]
    refine d_op (q_call _ (RC.use (leaf_rc hP hH (s := s.take n) (by rw [List.length_take]; omega)) ⟨rfl, rfl⟩) ?_)
    refine s_no ?_
    dsimp only [putF, rd, Frame.get]
    refine d_zero ?_
    refine r_op (o_call ?_)
    dsimp only [List.map, putF, rd, Frame.get]
    refine (leaf_rc hP hH (s := s.drop n) (by rw [List.length_drop]; omega)).use ?_
    refine s_no ?_
    refine r_op (o_mov (s_no ?_))
    dsimp only [putF, rd, Frame.get]
    refine r_op (o_mov (s_no ?_))
    dsimp only [putF, rd, Frame.get]
    refine r_nil (c_keep ?_)
    dsimp only [List.map]
    dsimp only [putF, rd, Frame.get]
    with_reducible (refine on_n ?_; refine c_ret ?_; refine ob_r ?_; refine on_r ?_)
    try dsimp only
    unfold rope_Split_r
    refine w_tmp (w_tmp (w_nil ?_))
    dsimp only [retV, Frame.get]
    exact ⟨_, by unfold rSplit; rw [if_neg (by omega), if_neg (by omega)], hS⟩
  | node a b iha ihb =>
    intro n hn hb hl
    refine RC.val ?_
    intro S mf hS
    refine rope_Split_ok.out rfl ?_ (by simp [rope_Split_fi])
    unfold vcFun rope_Split_fi
    dsimp only
    unfold rope_Split_c
    dsimp only [argF]
    with_reducible (refine c_seq ?_)
    refine c_ops ?_
    refine r_op (o_mov (s_no ?_))
    dsimp only [putF, rd, Frame.get]
    refine r_op (o_mov (s_no ?_))
    dsimp only [putF, rd, Frame.get]
    refine r_nil (c_keep ?_)
    dsimp only [List.map]
    dsimp only [putF, rd, Frame.get]
    with_reducible (refine on_n ?_; refine c_seq ?_; refine c_block ?_; refine c_seq ?_)
    refine c_ops ?_
    refine r_op (o_mov (s_no ?_))
    dsimp only [putF, rd, Frame.get]
    refine r_op (o_bin rfl (by first | trivial | (unfold inI64; omega)) (s_no ?_))
    dsimp only [putF, rd, Frame.get]
    refine r_op (o_mov (s_no ?_))
    dsimp only [putF, rd, Frame.get]
    refine r_nil (c_keep ?_)
    dsimp only [List.map]
    dsimp only [putF, rd, Frame.get]
    with_reducible (refine on_n ?_)
    refine c_dec rfl (fun h0 => ?_) (fun h0 => ?_)
    · with_reducible (refine c_seq ?_)
      refine c_ops ?_
      refine r_op (o_mov (s_no ?_))
      dsimp only [putF, rd, Frame.get]
      refine r_op (o_mov (s_no ?_))
      dsimp only [putF, rd, Frame.get]
      refine r_op (o_mov (s_no ?_))
      dsimp only [putF, rd, Frame.get]
      refine r_nil (c_keep ?_)
      dsimp only [List.map]
      dsimp only [putF, rd, Frame.get]
      with_reducible (refine on_n ?_; refine c_ret ?_; refine ob_r ?_; refine on_r ?_)
      try dsimp only
      unfold rope_Split_r
      refine w_tmp (w_tmp (w_nil ?_))
      dsimp only [retV, Frame.get]
      exact ⟨_, by unfold rSplit; rw [if_pos (by omega)], hS⟩
    with_reducible (refine c_seq ?_)
    refine c_ops ?_
    refine r_op (o_mov (s_no ?_))
    dsimp only [putF, rd, Frame.get]
    refine r_op (o_mov (s_no ?_))
    dsimp only [putF, rd, Frame.get]
    refine r_op (o_call ?_)
    dsimp only [List.map, putF, rd, Frame.get]
    refine (len_rc (r := some (.node a b))).use ?_
    refine s_no ?_
    refine r_op (o_bin rfl (by first | trivial | (unfold inI64; omega)) (s_no ?_))
    dsimp only [putF, rd, Frame.get]
    refine r_op (o_mov (s_no ?_))
    dsimp only [putF, rd, Frame.get]
    refine r_nil (c_keep ?_)
    dsimp only [List.map]
    dsimp only [putF, rd, Frame.get]
    with_reducible (refine on_n ?_)
    refine c_dec rfl (fun h1 => ?_) (fun h1 => ?_)
    · have h1 : ((Rp.node a b).txt.length : Int) ≤ (n : Int) := h1
      with_reducible (refine c_seq ?_)
      refine c_ops ?_
      refine r_op (o_mov (s_no ?_))
      dsimp only [putF, rd, Frame.get]
      refine r_op (o_mov (s_no ?_))
      dsimp only [putF, rd, Frame.get]
      refine r_op (o_mov (s_no ?_))
      dsimp only [putF, rd, Frame.get]
      refine r_nil (c_keep ?_)
      dsimp only [List.map]
      dsimp only [putF, rd, Frame.get]
      with_reducible (refine on_n ?_; refine c_ret ?_; refine ob_r ?_; refine on_r ?_)
      try dsimp only
      unfold rope_Split_r
      refine w_tmp (w_tmp (w_nil ?_))
      dsimp only [retV, Frame.get]
      exact ⟨_, by unfold rSplit; rw [if_neg (by omega), if_pos (by omega)], hS⟩
    have h1 : ¬ ((Rp.node a b).txt.length : Int) ≤ (n : Int) := h1
    have hl : a.txt.length + b.txt.length ≤ 1000000 := by simpa [Rp.txt] using hl
    with_reducible (refine c_seq ?_)
    refine c_ops ?_
    refine r_op (o_mov (s_no ?_))
    dsimp only [putF, rd, Frame.get]
    refine r_op (o_nilchkR rfl (s_no ?_))
    dsimp only [putF, rd, Frame.get]
    refine r_op (o_faddrR rfl (s_no ?_))
    dsimp only [putF, rd, Frame.get]
    refine r_op (o_loadR rfl rfl rfl (s_no ?_))
    dsimp only [putF, rd, Frame.get]
    refine r_op (o_bin rfl (by first | trivial | (unfold inI64; omega)) (s_no ?_))
    dsimp only [putF, rd, Frame.get]
    refine r_op (o_mov (s_no ?_))
    dsimp only [putF, rd, Frame.get]
    refine r_nil (c_keep ?_)
    dsimp only [List.map]
    dsimp only [putF, rd, Frame.get]
    with_reducible (refine on_n ?_)
    refine c_bool rfl (fun hb => by cases hb) (fun _ => ?_)
    with_reducible (refine c_skip ?_; refine ob_n ?_; refine on_n ?_; refine c_seq ?_)
    refine c_opsD0 hS fun S hS => ?_
    refine d_zero ?_
    refine r_op (o_mov (s_no ?_))
    dsimp only [putF, rd, Frame.get]
    refine r_op (o_nilchkR rfl (s_no ?_))
    dsimp only [putF, rd, Frame.get]
    refine r_op (o_faddrR rfl (s_no ?_))
    dsimp only [putF, rd, Frame.get]
    refine r_op (o_loadR rfl rfl rfl (s_no ?_))
    dsimp only [putF, rd, Frame.get]
    refine r_op (o_nilchkR rfl (s_no ?_))
    dsimp only [putF, rd, Frame.get]
    refine r_op (o_iaddrAR (j := 0) rfl rfl (by omega) (s_no ?_))
    dsimp only [putF, rd, Frame.get]
    simp only [Nat.zero_mul, Nat.mul_zero, Nat.mul_one, Nat.add_zero, Nat.zero_add, Nat.sub_zero, Nat.reduceAdd, Nat.reduceMul]
    refine r_op (o_loadR rfl rfl rfl (s_no ?_))
    dsimp only [putF, rd, Frame.get]
    refine r_op (o_mov (s_no ?_))
    dsimp only [putF, rd, Frame.get]
    refine r_op (o_nilchkR rfl (s_no ?_))
    dsimp only [putF, rd, Frame.get]
    refine r_op (o_faddrR rfl (s_no ?_))
    dsimp only [putF, rd, Frame.get]
    refine r_op (o_loadR rfl rfl rfl (s_no ?_))
    dsimp only [putF, rd, Frame.get]
    refine r_op (o_nilchkR rfl (s_no ?_))
    dsimp only [putF, rd, Frame.get]
    refine r_op (o_iaddrAR (j := 1) rfl rfl (by omega) (s_no ?_))
    dsimp only [putF, rd, Frame.get]
    simp only [Nat.zero_mul, Nat.mul_zero, Nat.mul_one, Nat.add_zero, Nat.zero_add, Nat.sub_zero, Nat.reduceAdd, Nat.reduceMul]
    refine r_op (o_loadR rfl rfl rfl (s_no ?_))
    dsimp only [putF, rd, Frame.get]
    refine r_op (o_mov (s_no ?_))
    dsimp only [putF, rd, Frame.get]
    refine r_op (o_mov (s_no ?_))
    dsimp only [putF, rd, Frame.get]
    refine r_nil (c_keep ?_)
    dsimp only [List.map]
    dsimp only [putF, rd, Frame.get]
    with_reducible (refine on_n ?_; refine c_seq ?_; refine c_seq ?_)
    refine c_ops ?_
    refine r_op (o_mov (s_no ?_))
    dsimp only [putF, rd, Frame.get]
    refine r_op (o_mov (s_no ?_))
    dsimp only [putF, rd, Frame.get]
    refine r_op (o_call ?_)
    dsimp only [List.map, putF, rd, Frame.get]
    refine (len_rc (r := some a)).use ?_
    refine s_no ?_
    refine r_op (o_bin rfl (by first | trivial | (unfold inI64; omega)) (s_no ?_))
    dsimp only [putF, rd, Frame.get]
    refine r_nil (c_keep ?_)
    dsimp only [List.map]
    dsimp only [putF, rd, Frame.get]
    with_reducible (refine on_n ?_)
    refine c_dec rfl (fun h2 => ?_) (fun h2 => ?_)
    · have h2 : (n : Int) ≤ (a.txt.length : Int) := h2
      have st := rSplit_txt a n
      have sb := rSplit_bal a n hb.1
      with_reducible (refine c_seq ?_)
      refine c_ops ?_
      refine r_op (o_mov (s_no ?_))
      dsimp only [putF, rd, Frame.get]
      refine r_op (o_mov (s_no ?_))
      dsimp only [putF, rd, Frame.get]
      refine r_op (o_call ?_)
      dsimp only [List.map, putF, rd, Frame.get]
      refine (iha n hn hb.1 (by omega)).use ?_
      refine s_no ?_
      refine r_op (o_mov (s_no ?_))
      dsimp only [putF, rd, Frame.get]
      refine r_op (o_extract rfl rfl (s_no ?_))
      dsimp only [putF, rd, Frame.get]
      refine r_op (o_extract rfl rfl (s_no ?_))
      dsimp only [putF, rd, Frame.get]
      refine r_op (o_mov (s_no ?_))
      dsimp only [putF, rd, Frame.get]
      refine r_op (o_mov (s_no ?_))
      dsimp only [putF, rd, Frame.get]
      refine r_nil (c_keep ?_)
      dsimp only [List.map]
      dsimp only [putF, rd, Frame.get]
      with_reducible (refine on_n ?_; refine c_seq ?_)
      refine c_ops ?_
      refine r_op (o_mov (s_no ?_))
      dsimp only [putF, rd, Frame.get]
      refine r_op (o_mov (s_no ?_))
      dsimp only [putF, rd, Frame.get]
      refine r_op (o_mov (s_no ?_))
      dsimp only [putF, rd, Frame.get]
      refine r_op (o_call ?_)
      dsimp only [List.map, putF, rd, Frame.get]
      refine (joinO_rc hP hH hPJ hHJ (a := (rSplit a n).2) (b := some b) sb.2 hb.2.1 (by rw [st.2, List.length_drop]; show _ + b.txt.length ≤ _; omega)).use ?_
      refine s_no ?_
      refine r_op (o_mov (s_no ?_))
      dsimp only [putF, rd, Frame.get]
      refine r_op (o_mov (s_no ?_))
      dsimp only [putF, rd, Frame.get]
      refine r_nil (c_keep ?_)
      dsimp only [List.map]
      dsimp only [putF, rd, Frame.get]
      with_reducible (refine on_n ?_; refine c_ret ?_; refine on_r ?_)
      try dsimp only
      unfold rope_Split_r
      refine w_tmp (w_tmp (w_nil ?_))
      dsimp only [retV, Frame.get]
      exact ⟨_, by conv => rhs; unfold rSplit
                   rw [if_neg (by omega), if_neg (by omega), if_pos (by omega)], hS⟩
    have h2 : ¬ (n : Int) ≤ (a.txt.length : Int) := h2
    have st := rSplit_txt b (n - a.txt.length)
    have sb := rSplit_bal b (n - a.txt.length) hb.2.1
    with_reducible (refine c_skip ?_; refine on_n ?_; refine c_seq ?_)
    refine c_ops ?_
    refine r_op (o_mov (s_no ?_))
    dsimp only [putF, rd, Frame.get]
    refine r_op (o_mov (s_no ?_))
    dsimp only [putF, rd, Frame.get]
    refine r_op (o_mov (s_no ?_))
    dsimp only [putF, rd, Frame.get]
    refine r_op (o_call ?_)
    dsimp only [List.map, putF, rd, Frame.get]
    refine (len_rc (r := some a)).use ?_
    refine s_no ?_
    refine r_op (o_bin rfl (by first | trivial | (unfold inI64; omega)) (s_no ?_))
    dsimp only [putF, rd, Frame.get]
    refine r_op (o_call ?_)
    dsimp only [List.map, putF, rd, Frame.get]
    rw [show (n : Int) - ((txtO (some a)).length : Int) = ((n - a.txt.length : Nat) : Int) by (show (n : Int) - (a.txt.length : Int) = _); omega]; refine (ihb (n - a.txt.length) (by omega) hb.2.1 (by omega)).use ?_
    refine s_no ?_
    refine r_op (o_mov (s_no ?_))
    dsimp only [putF, rd, Frame.get]
    refine r_op (o_extract rfl rfl (s_no ?_))
    dsimp only [putF, rd, Frame.get]
    refine r_op (o_extract rfl rfl (s_no ?_))
    dsimp only [putF, rd, Frame.get]
    refine r_op (o_mov (s_no ?_))
    dsimp only [putF, rd, Frame.get]
    refine r_op (o_mov (s_no ?_))
    dsimp only [putF, rd, Frame.get]
    refine r_nil (c_keep ?_)
    dsimp only [List.map]
    dsimp only [putF, rd, Frame.get]
    with_reducible (refine on_n ?_; refine c_seq ?_)
    refine c_ops ?_
    refine r_op (o_mov (s_no ?_))
    dsimp only [putF, rd, Frame.get]
    refine r_op (o_mov (s_no ?_))
    dsimp only [putF, rd, Frame.get]
    refine r_op (o_call ?_)
    dsimp only [List.map, putF, rd, Frame.get]
    refine (joinO_rc hP hH hPJ hHJ (a := some a) (b := (rSplit b (n - a.txt.length)).1) hb.1 sb.1 (by rw [st.1, List.length_take]; show a.txt.length + _ ≤ _; omega)).use ?_
    refine s_no ?_
    refine r_op (o_mov (s_no ?_))
    dsimp only [putF, rd, Frame.get]
    refine r_op (o_mov (s_no ?_))
    dsimp only [putF, rd, Frame.get]
    refine r_op (o_mov (s_no ?_))
    dsimp only [putF, rd, Frame.get]
    refine r_nil (c_keep ?_)
    dsimp only [List.map]
    dsimp only [putF, rd, Frame.get]
    with_reducible (refine on_n ?_; refine c_ret ?_)
    try dsimp only
    unfold rope_Split_r
    refine w_tmp (w_tmp (w_nil ?_))
    dsimp only [retV, Frame.get]
    exact ⟨_, by conv => rhs; unfold rSplit
                 rw [if_neg (by omega), if_neg (by omega), if_neg (by omega)], hS⟩
theorem splitO_rc (hP : Con Try.prog f_pos_Of pos_Of_ct) (hH : Con Try.prog f_poly_Of poly_Of_ct) (hPJ : Con Try.prog f_pos_Join pos_Join_ct) (hHJ : Con Try.prog f_poly_Join poly_Join_ct) {r : Ro} {n : Nat} (hn : n ≤ (txtO r).length) (hb : balO r) (hl : (txtO r).length ≤ 1000000) : RC Try.prog f_rope_Split [ropeO r, .int .i64 (n : Int)] (.tup [ropeO (rSplitO r n).1, ropeO (rSplitO r n).2]) := by
  cases r with
  | some r => exact split_rc hP hH hPJ hHJ r n (by omega) hb hl
  | none =>
    have h0 : n = 0 := by simpa [txtO] using hn
    subst h0
    refine RC.val ?_
    intro S mf hS
    refine rope_Split_ok.out rfl ?_ (by simp [rope_Split_fi])
    unfold vcFun rope_Split_fi
    dsimp only
    unfold rope_Split_c
    dsimp only [argF]
    with_reducible (refine c_seq ?_)
    refine c_ops ?_
    refine r_op (o_mov (s_no ?_))
    dsimp only [putF, rd, Frame.get]
    refine r_op (o_mov (s_no ?_))
    dsimp only [putF, rd, Frame.get]
    refine r_nil (c_keep ?_)
    dsimp only [List.map]
    dsimp only [putF, rd, Frame.get]
    with_reducible (refine on_n ?_; refine c_seq ?_; refine c_block ?_; refine c_seq ?_)
    refine c_ops ?_
    refine r_op (o_mov (s_no ?_))
    dsimp only [putF, rd, Frame.get]
    refine r_op (o_bin rfl (by first | trivial | (unfold inI64; omega)) (s_no ?_))
    dsimp only [putF, rd, Frame.get]
    refine r_op (o_mov (s_no ?_))
    dsimp only [putF, rd, Frame.get]
    refine r_nil (c_keep ?_)
    dsimp only [List.map]
    dsimp only [putF, rd, Frame.get]
    with_reducible (refine on_n ?_)
    refine c_dec rfl (fun h0 => ?_) (fun h0 => absurd (by decide) h0)
    with_reducible (refine c_seq ?_)
    refine c_ops ?_
    refine r_op (o_mov (s_no ?_))
    dsimp only [putF, rd, Frame.get]
    refine r_op (o_mov (s_no ?_))
    dsimp only [putF, rd, Frame.get]
    refine r_op (o_mov (s_no ?_))
    dsimp only [putF, rd, Frame.get]
    refine r_nil (c_keep ?_)
    dsimp only [List.map]
    dsimp only [putF, rd, Frame.get]
    with_reducible (refine on_n ?_; refine c_ret ?_; refine ob_r ?_; refine on_r ?_)
    try dsimp only
    unfold rope_Split_r
    refine w_tmp (w_tmp (w_nil ?_))
    dsimp only [retV, Frame.get]
    exact ⟨_, rfl, hS⟩
end Go.Proofs.Ytgiglabejffciaa.H
