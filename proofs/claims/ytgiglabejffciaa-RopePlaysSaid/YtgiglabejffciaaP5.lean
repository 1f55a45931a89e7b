/- The leaves of a rope, one by one; its text; ropes that are played, as texts: walked. Conditions: none. -/
import Derived.Test.YtgiglabejffciaaGP
import Derived.Test.YtgiglabejffciaaR3
import Derived.Test.YtgiglabejffciaaVh6
import Derived.Test.YtgiglabejffciaaVpRT
set_option linter.unusedVariables false
set_option linter.unusedSimpArgs false
set_option maxRecDepth 100000
namespace Go.Proofs.Ytgiglabejffciaa.P
open Go.Vc Go.Fu
open H (ropeA ropeO ropeS ropeP len_rc encO play_walk ropes_at ropes_take)
def leaves : Rp → List Bytes
  | .leaf s => [s]
  | .node a b => leaves a ++ leaves b
def leavesO : Ro → List Bytes
  | none => []
  | some r => leaves r
theorem leaves_txt : ∀ r : Rp, (leaves r).flatten = r.txt
  | .leaf s => by simp [leaves, Rp.txt]
  | .node a b => by simp only [leaves, List.flatten_append, leaves_txt a, leaves_txt b, Rp.txt]
theorem leavesO_txt : ∀ r : Ro, (leavesO r).flatten = txtO r
  | none => rfl
  | some r => leaves_txt r

theorem each_walk {b : Nat} (r : Rp) : ∀ (n : Nat) (C : Nat → HM → Prop), (∀ i a c, (leaves r)[i]? = some a → C (n + i) c → HY Try.prog b [.str a] c fun x m' => x = .bool true ∧ C (n + i + 1) m') → ∀ c, C n c →
    HC Try.prog f___rope_Rope__each [ropeA r, .fn (.yield b) [] []] c fun x m' => x = .bool true ∧ ∃ c' X, C (n + (leaves r).length) c' ∧ m' = c' + X := by
  induction r with
  | leaf s =>
    intro n C hY c h0 S mf hS
    refine __rope_Rope__each_ok.out rfl ?_ (by simp [__rope_Rope__each_fi])
    unfold vcFun __rope_Rope__each_fi
    dsimp only
    unfold __rope_Rope__each_c
    dsimp only [argF, ropeP, ropeS]
    with_reducible (refine c_seq ?_)
    refine c_ops ?_
    refine r_op (o_mov (s_no ?_))
    dsimp only [putF, rd, Frame.get]
    refine r_nil (c_keep ?_)
    dsimp only [List.map]
    dsimp only [putF, rd, Frame.get]
    with_reducible (refine on_n ?_; refine c_seq ?_; refine c_seq ?_)
    refine c_ops ?_
    refine r_op (o_mov (s_no ?_))
    dsimp only [putF, rd, Frame.get]
    refine r_op (o_bin rfl (by first | trivial | (unfold inI64; omega)) (s_no ?_))
    dsimp only [putF, rd, Frame.get]
    refine r_nil (c_keep ?_)
    dsimp only [List.map]
    dsimp only [putF, rd, Frame.get]
    with_reducible (refine on_n ?_)
    refine c_bool rfl (fun hb => by cases hb) (fun _ => ?_)
    with_reducible (refine c_skip ?_; refine on_n ?_; refine c_seq ?_; refine c_seq ?_)
    refine c_ops ?_
    refine r_op (o_mov (s_no ?_))
    dsimp only [putF, rd, Frame.get]
    refine r_op (o_nilchkR rfl (s_no ?_))
    dsimp only [putF, rd, Frame.get]
    refine r_op (o_faddrR rfl (s_no ?_))
    dsimp only [putF, rd, Frame.get]
    refine r_op (o_loadR rfl rfl rfl (s_no ?_))
    dsimp only [putF, rd, Frame.get]
    refine r_op (o_bin rfl (by first | trivial | (unfold inI64; omega)) (s_no ?_))
    dsimp only [putF, rd, Frame.get]
    refine r_nil (c_keep ?_)
    dsimp only [List.map]
    dsimp only [putF, rd, Frame.get]
    with_reducible (refine on_n ?_)
    refine c_bool rfl (fun _ => ?_) (fun hb => by cases hb)
    with_reducible (refine c_seq ?_)
    refine c_ops ?_
    refine r_op (o_mov (s_no ?_))
    dsimp only [putF, rd, Frame.get]
    refine r_op (o_mov (s_no ?_))
    dsimp only [putF, rd, Frame.get]
    refine r_op (o_nilchkR rfl (s_no ?_))
    dsimp only [putF, rd, Frame.get]
    refine r_op (o_faddrR rfl (s_no ?_))
    dsimp only [putF, rd, Frame.get]
    refine r_op (o_loadR rfl rfl rfl (s_no ?_))
    dsimp only [putF, rd, Frame.get]
    refine r_op ?_
    refine o_yield rfl ?_; dsimp only [List.map, putF, rd, Frame.get]; refine (hY 0 _ _ rfl h0).use hS fun r m' S h hS => ?_; obtain ⟨rfl, hC'⟩ := h
    refine s_no ?_
    refine r_op (o_mov (s_no ?_))
    dsimp only [putF, rd, Frame.get]
    refine r_nil (c_keep ?_)
    dsimp only [List.map]
    dsimp only [putF, rd, Frame.get]
    with_reducible (refine on_n ?_; refine c_ret ?_; refine on_r ?_)
    try dsimp only
    unfold __rope_Rope__each_r
    refine w_tmp (w_nil ?_)
    dsimp only [retV, Frame.get]
    exact ⟨_, ⟨rfl, m', HM.nil, hC', (HM.add_nil _).symm⟩, hS⟩
  | node a b iha ihb =>
    intro n C hY c h0 S mf hS
    have ha := iha n C (fun i x c h hc => hY i x c (by
      have := (List.getElem?_eq_some_iff.1 h).1
      show (leaves a ++ leaves b)[i]? = some x
      rw [List.getElem?_append_left this]; exact h) hc) c h0
    refine __rope_Rope__each_ok.out rfl ?_ (by simp [__rope_Rope__each_fi])
    unfold vcFun __rope_Rope__each_fi
    dsimp only
    unfold __rope_Rope__each_c
    dsimp only [argF, ropeP, ropeS]
    with_reducible (refine c_seq ?_)
    refine c_ops ?_
    refine r_op (o_mov (s_no ?_))
    dsimp only [putF, rd, Frame.get]
    refine r_nil (c_keep ?_)
    dsimp only [List.map]
    dsimp only [putF, rd, Frame.get]
    with_reducible (refine on_n ?_; refine c_seq ?_; refine c_seq ?_)
    refine c_ops ?_
    refine r_op (o_mov (s_no ?_))
    dsimp only [putF, rd, Frame.get]
    refine r_op (o_bin rfl (by first | trivial | (unfold inI64; omega)) (s_no ?_))
    dsimp only [putF, rd, Frame.get]
    refine r_nil (c_keep ?_)
    dsimp only [List.map]
    dsimp only [putF, rd, Frame.get]
    with_reducible (refine on_n ?_)
    refine c_bool rfl (fun hb => by cases hb) (fun _ => ?_)
    with_reducible (refine c_skip ?_; refine on_n ?_; refine c_seq ?_; refine c_seq ?_)
    refine c_ops ?_
    refine r_op (o_mov (s_no ?_))
    dsimp only [putF, rd, Frame.get]
    refine r_op (o_nilchkR rfl (s_no ?_))
    dsimp only [putF, rd, Frame.get]
    refine r_op (o_faddrR rfl (s_no ?_))
    dsimp only [putF, rd, Frame.get]
    refine r_op (o_loadR rfl rfl rfl (s_no ?_))
    dsimp only [putF, rd, Frame.get]
    refine r_op (o_bin rfl (by first | trivial | (unfold inI64; omega)) (s_no ?_))
    dsimp only [putF, rd, Frame.get]
    refine r_nil (c_keep ?_)
    dsimp only [List.map]
    dsimp only [putF, rd, Frame.get]
    with_reducible (refine on_n ?_)
    refine c_bool rfl (fun hb => by cases hb) (fun _ => ?_)
    with_reducible (refine c_skip ?_; refine on_n ?_; refine c_seq ?_)
    have hb : ∀ c, C (n + (leaves a).length) c → HC Try.prog f___rope_Rope__each [ropeA b, .fn (.yield _) [] []] c fun x m' => x = .bool true ∧ ∃ c' X, C (n + (leaves a).length + (leaves b).length) c' ∧ m' = c' + X := fun c hc =>
      ihb (n + (leaves a).length) C (fun i x c h hc => by
        have := hY ((leaves a).length + i) x c (by
          show (leaves a ++ leaves b)[_]? = some x
          rw [List.getElem?_append_right (by omega), Nat.add_sub_cancel_left]; exact h) (by rw [← Nat.add_assoc]; exact hc)
        rw [← Nat.add_assoc] at this
        exact this) c hc
    refine c_ops ?_
    refine r_op (o_mov (s_no ?_))
    dsimp only [putF, rd, Frame.get]
    refine r_op (o_nilchkR rfl (s_no ?_))
    dsimp only [putF, rd, Frame.get]
    refine r_op (o_faddrR rfl (s_no ?_))
    dsimp only [putF, rd, Frame.get]
    refine r_op (o_loadR rfl rfl rfl (s_no ?_))
    dsimp only [putF, rd, Frame.get]
    refine r_op (o_nilchkR rfl (s_no ?_))
    dsimp only [putF, rd, Frame.get]
    refine r_op (o_iaddrAR (j := 0) rfl rfl (by omega) (s_no ?_))
    dsimp only [putF, rd, Frame.get]
    simp only [Nat.zero_mul, Nat.mul_zero, Nat.mul_one, Nat.add_zero, Nat.zero_add, Nat.sub_zero, Nat.reduceAdd, Nat.reduceMul]
    refine r_op (o_loadR rfl rfl rfl (s_no ?_))
    dsimp only [putF, rd, Frame.get]
    refine r_op (o_mov (s_no ?_))
    dsimp only [putF, rd, Frame.get]
    refine r_op (o_call ?_)
    dsimp only [List.map, putF, rd, Frame.get]
    refine HC.use ha hS ?_; rintro r m' S ⟨rfl, c1, X1, hC1, rfl⟩ hS
    refine s_no ?_
    refine r_op ?_
    refine o_mov (s_bool (fun _ => ?_) (fun hg => by cases hg))
    dsimp only [putF, rd, Frame.get]
    refine r_tt rfl (o_mov (s_no ?_))
    dsimp only [putF, rd, Frame.get]
    refine r_tt rfl (o_nilchkR rfl (s_no ?_))
    dsimp only [putF, rd, Frame.get]
    refine r_tt rfl (o_faddrR rfl (s_no ?_))
    dsimp only [putF, rd, Frame.get]
    refine r_tt rfl (o_loadR rfl rfl rfl (s_no ?_))
    dsimp only [putF, rd, Frame.get]
    refine r_tt rfl (o_nilchkR rfl (s_no ?_))
    dsimp only [putF, rd, Frame.get]
    refine r_tt rfl (o_iaddrAR (j := 1) rfl rfl (by omega) (s_no ?_))
    dsimp only [putF, rd, Frame.get]
    simp only [Nat.zero_mul, Nat.mul_zero, Nat.mul_one, Nat.add_zero, Nat.zero_add, Nat.sub_zero, Nat.reduceAdd, Nat.reduceMul]
    refine r_tt rfl (o_loadR rfl rfl rfl (s_no ?_))
    dsimp only [putF, rd, Frame.get]
    refine r_tt rfl (o_mov (s_no ?_))
    dsimp only [putF, rd, Frame.get]
    refine r_tt rfl (o_call ?_)
    dsimp only [List.map, putF, rd, Frame.get]
    refine HC.use (hb c1 hC1) hS ?_; rintro r m' S ⟨rfl, c2, X2, hC2, rfl⟩ hS
    refine s_no ?_
    refine r_op (o_pickT rfl (s_no ?_))
    dsimp only [putF, rd, Frame.get]
    refine r_op (o_mov (s_no ?_))
    dsimp only [putF, rd, Frame.get]
    refine r_nil (c_keep ?_)
    dsimp only [List.map]
    dsimp only [putF, rd, Frame.get]
    with_reducible (refine on_n ?_; refine c_ret ?_)
    try dsimp only
    unfold __rope_Rope__each_r
    refine w_tmp (w_nil ?_)
    dsimp only [retV, Frame.get]
    refine ⟨_, ⟨rfl, c2, X2 + X1, by show C (n + (leaves a ++ leaves b).length) c2; rw [List.length_append, ← Nat.add_assoc]; exact hC2, rfl⟩, hS.eq (by ac_rfl)⟩
theorem eachO_walk {b : Nat} (r : Ro) (C : Nat → HM → Prop) (hY : ∀ i a c, (leavesO r)[i]? = some a → C i c → HY Try.prog b [.str a] c fun x m' => x = .bool true ∧ C (i + 1) m') (c : HM) (h0 : C 0 c) :
    HC Try.prog f___rope_Rope__each [ropeO r, .fn (.yield b) [] []] c fun x m' => x = .bool true ∧ ∃ c' X, C (leavesO r).length c' ∧ m' = c' + X := by
  cases r with
  | some r =>
    have h := each_walk (b := b) r 0 C (fun i a c h hc => by rw [Nat.zero_add] at hc ⊢; exact hY i a c h hc) c h0
    rw [Nat.zero_add] at h
    exact h
  | none =>
    intro S mf hS
    refine __rope_Rope__each_ok.out rfl ?_ (by simp [__rope_Rope__each_fi])
    unfold vcFun __rope_Rope__each_fi
    dsimp only
    unfold __rope_Rope__each_c
    dsimp only [argF]
    with_reducible (refine c_seq ?_)
    refine c_ops ?_
    refine r_op (o_mov (s_no ?_))
    dsimp only [putF, rd, Frame.get]
    refine r_nil (c_keep ?_)
    dsimp only [List.map]
    dsimp only [putF, rd, Frame.get]
    with_reducible (refine on_n ?_; refine c_seq ?_; refine c_seq ?_)
    refine c_ops ?_
    refine r_op (o_mov (s_no ?_))
    dsimp only [putF, rd, Frame.get]
    refine r_op (o_bin rfl (by first | trivial | (unfold inI64; omega)) (s_no ?_))
    dsimp only [putF, rd, Frame.get]
    refine r_nil (c_keep ?_)
    dsimp only [List.map]
    dsimp only [putF, rd, Frame.get]
    with_reducible (refine on_n ?_)
    refine c_bool rfl (fun _ => ?_) (fun hb => by cases hb)
    with_reducible (refine c_seq ?_)
    refine c_ops ?_
    refine r_op (o_mov (s_no ?_))
    dsimp only [putF, rd, Frame.get]
    refine r_nil (c_keep ?_)
    dsimp only [List.map]
    dsimp only [putF, rd, Frame.get]
    with_reducible (refine on_n ?_; refine c_ret ?_; refine on_r ?_)
    try dsimp only
    unfold __rope_Rope__each_r
    refine w_tmp (w_nil ?_)
    dsimp only [retV, Frame.get]
    exact ⟨c, ⟨rfl, c, HM.nil, h0, (HM.add_nil _).symm⟩, hS⟩
def leafA (s : Bytes) : List AVal := [.str s]

theorem leaves_seq (r : Ro) (l1 v1 : Nat) : HSeq Try.prog f___rope_Rope__Leaves_1 [.ptr l1 v1 0] ((leavesO r).map leafA) (pt l1 (.row v1 0 [ropeO r])) := by
  intro b C hY c h0 S mf hS
  have hw := eachO_walk (b := b) r C (fun i a c h hc => hY i (leafA a) c (by rw [List.getElem?_map, h]; rfl) hc) c h0
  rw [List.length_map]
  refine __rope_Rope__Leaves_1_ok.out rfl ?_ (by simp [__rope_Rope__Leaves_1_fi])
  unfold vcFun __rope_Rope__Leaves_1_fi
  dsimp only
  unfold __rope_Rope__Leaves_1_c
  dsimp only [argF]
  refine c_ops ?_
  refine r_op (o_load hS rfl rfl rfl rfl (s_no ?_))
  dsimp only [putF, rd, Frame.get]
  refine r_op (o_mov (s_no ?_))
  dsimp only [putF, rd, Frame.get]
  refine r_op (o_call ?_)
  dsimp only [List.map, putF, rd, Frame.get]
  refine HC.use hw hS ?_; rintro r' m' S ⟨rfl, c1, X1, hC1, rfl⟩ hS
  refine s_no ?_
  refine r_nil (c_keep ?_)
  dsimp only [List.map]
  try dsimp only
  unfold __rope_Rope__Leaves_1_r
  refine w_nil ?_
  dsimp only [retV, Frame.get]
  exact ⟨_, ⟨c1, pt l1 (.row v1 0 [ropeO r]) + X1, hC1, rfl⟩, hS.eq (by ac_rfl)⟩

theorem Leaves_walk (r : Ro) : HC Try.prog f___rope_Rope__Leaves [ropeO r] HM.nil fun x m' => ∃ l1 v1, x = .fn (.func f___rope_Rope__Leaves_1) [] [.ptr l1 v1 0] ∧ m' = pt l1 (.row v1 0 [ropeO r]) := by
  intro S mf hS
  refine __rope_Rope__Leaves_ok.out rfl ?_ (by simp [__rope_Rope__Leaves_fi])
  unfold vcFun __rope_Rope__Leaves_fi
  dsimp only
  unfold __rope_Rope__Leaves_c
  dsimp only [argF]
  rw [HM.nil_add] at hS
  cases r with
  | none =>
    with_reducible (refine c_seq ?_)
    refine c_ops ?_
    refine r_op (o_box hS rfl fun v1 l1 S hS => s_no ?_)
    dsimp only [putF, rd, Frame.get]
    dsimp only [putF, rd, Frame.get, setCells, over] at hS
    refine r_op (o_mov (s_no ?_))
    dsimp only [putF, rd, Frame.get]
    refine r_nil (c_keep ?_)
    dsimp only [List.map]
    dsimp only [putF, rd, Frame.get]
    with_reducible (refine on_n ?_; refine c_seq ?_)
    refine c_ops ?_
    refine r_op (o_mkfunc (s_no ?_))
    dsimp only [putF, rd, Frame.get]
    refine r_op (o_mov (s_no ?_))
    dsimp only [putF, rd, Frame.get]
    refine r_nil (c_keep ?_)
    dsimp only [List.map]
    dsimp only [putF, rd, Frame.get]
    with_reducible (refine on_n ?_; refine c_ret ?_)
    try dsimp only
    unfold __rope_Rope__Leaves_r
    refine w_tmp (w_nil ?_)
    dsimp only [retV, Frame.get]
    exact ⟨_, ⟨l1, v1, rfl, rfl⟩, hS⟩
  | some r =>
    with_reducible (refine c_seq ?_)
    refine c_ops ?_
    refine r_op (o_box hS rfl fun v1 l1 S hS => s_no ?_)
    dsimp only [putF, rd, Frame.get]
    dsimp only [putF, rd, Frame.get, setCells, over] at hS
    refine r_op (o_mov (s_no ?_))
    dsimp only [putF, rd, Frame.get]
    refine r_nil (c_keep ?_)
    dsimp only [List.map]
    dsimp only [putF, rd, Frame.get]
    with_reducible (refine on_n ?_; refine c_seq ?_)
    refine c_ops ?_
    refine r_op (o_mkfunc (s_no ?_))
    dsimp only [putF, rd, Frame.get]
    refine r_op (o_mov (s_no ?_))
    dsimp only [putF, rd, Frame.get]
    refine r_nil (c_keep ?_)
    dsimp only [List.map]
    dsimp only [putF, rd, Frame.get]
    with_reducible (refine on_n ?_; refine c_ret ?_)
    try dsimp only
    unfold __rope_Rope__Leaves_r
    refine w_tmp (w_nil ?_)
    dsimp only [retV, Frame.get]
    exact ⟨_, ⟨l1, v1, rfl, rfl⟩, hS⟩
abbrev byA (s : Bytes) : List AVal := s.map fun c => .int .u8 c.toNat

theorem String_rc (r : Ro) (hr : (txtO r).length ≤ 1000000) : RC Try.prog f___rope_Rope__String [ropeO r] (.str (txtO r)) := by
  refine RC.val ?_
  intro S mf hS
  rw [HM.nil_add] at hS
  refine __rope_Rope__String_ok.out (by simp) ?_
  unfold vcFunL __rope_Rope__String_c
  dsimp only [argF]
  refine l_seqR ?_
  refine c_ops ?_
  refine r_op (o_mov (s_no ?_))
  dsimp only [putF, rd, Frame.get]
  refine r_nil (c_keep ?_)
  dsimp only [List.map]
  dsimp only [putF, rd, Frame.get]
  with_reducible (refine on_n ?_)
  refine l_seqR ?_
  refine c_ops ?_
  refine r_op (o_mov (s_no ?_))
  dsimp only [putF, rd, Frame.get]
  refine r_op (o_call ?_)
  dsimp only [List.map, putF, rd, Frame.get]
  refine (len_rc (r := r)).use ?_
  refine s_no ?_
  refine r_op ?_
  refine o_mkcap hS rfl rfl (Nat.zero_le _) (by omega) fun v7 l7 S hS => ?_
  refine s_no ?_
  dsimp only [putF, rd, Frame.get]
  refine r_op (o_alloc hS fun v3 l3 S hS => s_no ?_)
  dsimp only [putF, rd, Frame.get]
  refine r_op (o_store hS rfl rfl rfl rfl (by simp) fun S hS => s_no ?_)
  dsimp only [putF, rd, Frame.get]
  dsimp only [putF, rd, Frame.get, setCells, over] at hS
  refine r_nil (c_keep ?_)
  dsimp only [List.map]
  dsimp only [putF, rd, Frame.get]
  with_reducible (refine on_n ?_)
  refine l_seqL (l_seqR ?_)
  refine c_ops ?_
  refine r_op (o_mov (s_no ?_))
  dsimp only [putF, rd, Frame.get]
  refine r_op (o_call ?_)
  dsimp only [List.map, putF, rd, Frame.get]
  refine (Leaves_walk r).more hS fun x m' S h hS => ?_; obtain ⟨l1, v1, rfl, rfl⟩ := h
  refine s_no ?_
  refine r_nil (c_keep ?_)
  dsimp only [List.map]
  dsimp only [putF, rd, Frame.get]
  with_reducible (refine on_n ?_)
  refine l_block ?_
  have hfl := leavesO_txt r
  have hlen : ∀ i, (((leavesO r).take i).flatten).length ≤ (txtO r).length := fun i => by
    rw [← hfl]
    conv => rhs; rw [← List.take_append_drop i (leavesO r), List.flatten_append, List.length_append]
    omega
  refine l_range (fun i d => ∃ v, d = pt l3 (.row v3 0 [.sl l7 v 0 (((leavesO r).take i).flatten).length]) + pt l7 (.row v 1 (byA ((leavesO r).take i).flatten)))
    (fun i F => ∃ s, (leavesO r)[i]? = some s ∧ F = [(3, .ptr l3 v3 0), (4, .str s)]) rfl (by kernel_rfl) (leaves_seq r l1 v1) (hS.eq (m' := (pt l1 (.row v1 0 [ropeO r]) + (pt l3 (.row v3 0 [.sl l7 v7 0 0]) + pt l7 (.row v7 1 []))) + mf) (by ac_rfl)) ⟨v7, rfl⟩ ?_ ?_ ?_ ?_
  · intro a ha
    obtain ⟨l, _, rfl⟩ := List.mem_map.1 ha
    rfl
  · intro i a S hi
    rw [List.getElem?_map] at hi
    cases hs : (leavesO r)[i]? with
    | none => rw [hs] at hi; cases hi
    | some s =>
      rw [hs] at hi
      cases hi
      unfold leafA
      dsimp only [putsF]
      refine c_ops ?_
      refine r_op (o_mov (s_no ?_))
      dsimp only [putF, rd, Frame.get]
      refine r_nil (c_keep ?_)
      dsimp only [List.map]
      dsimp only [putF, rd, Frame.get]
      exact ⟨rfl, rfl, s, rfl, rfl⟩
  · rintro i F1 S d mf hlt ⟨v, rfl⟩ ⟨s, hs, rfl⟩ hS
    have h1 := hlen (i + 1)
    have e : ((leavesO r).take (i + 1)).flatten = ((leavesO r).take i).flatten ++ s := by rw [List.take_add_one, hs, List.flatten_append]; simp
    rw [e, List.length_append] at h1
    with_reducible (refine c_block ?_)
    refine c_ops ?_
    refine r_op (o_load hS rfl rfl rfl rfl (s_no ?_))
    dsimp only [putF, rd, Frame.get]
    refine r_op (o_mov (s_no ?_))
    dsimp only [putF, rd, Frame.get]
    refine r_op ?_
    refine o_appendX hS rfl (n' := s.length) (ys := byA s) ⟨rfl, rfl, rfl⟩ rfl (by rw [List.length_map]; omega) (by omega) fun v' S hS => ?_
    refine s_no ?_
    dsimp only [putF, rd, Frame.get]
    refine r_op ?_
    refine o_store hS rfl rfl rfl rfl (by simp) fun S hS => ?_; (try dsimp only [putF, rd, Frame.get, setCells, over] at hS)
    refine s_no ?_
    dsimp only [putF, rd, Frame.get]
    refine r_nil (c_keep ?_)
    dsimp only [List.map]
    with_reducible (refine ob_n ?_)
    refine ⟨rfl, _, ⟨v', rfl⟩, ?_⟩
    rw [e, List.length_append, show byA (((leavesO r).take i).flatten ++ s) = byA ((leavesO r).take i).flatten ++ byA s from List.map_append]
    exact hS
  · rintro d X S ⟨v, rfl⟩ hS
    rw [List.length_map, List.take_of_length_le (Nat.le_refl _), hfl] at hS
    with_reducible (refine ob_n ?_; refine on_n ?_; refine c_seq ?_)
    refine c_ops ?_
    refine r_op (o_load hS rfl rfl rfl rfl (s_no ?_))
    dsimp only [putF, rd, Frame.get]
    refine r_op ?_
    refine o_b2s hS rfl rfl rfl ?_
    refine s_no ?_
    dsimp only [putF, rd, Frame.get]
    refine r_op (o_mov (s_no ?_))
    dsimp only [putF, rd, Frame.get]
    refine r_nil (c_keep ?_)
    dsimp only [List.map]
    dsimp only [putF, rd, Frame.get]
    with_reducible (refine on_n ?_; refine c_ret ?_)
    try dsimp only
    unfold __rope_Rope__String_r
    refine w_tmp (w_nil ?_)
    dsimp only [retV, Frame.get]
    exact ⟨_, rfl, hS⟩

theorem Play_walk (hP : Con Try.prog f_pos_Of pos_Of_ct) (hH : Con Try.prog f_poly_Of poly_Of_ct) (hPJ : Con Try.prog f_pos_Join pos_Join_ct) (hHJ : Con Try.prog f_poly_Join poly_Join_ct) (l : List Go.Fu.Op) (hp : opsFit l) :
    HC Try.prog f_rope_Play [.ros l.length (l.flatMap encO)] HM.nil fun r m' => (80 < l.length ∧ ∃ p v X, r = .tup [.sl p v 0 0, .nils, .int .i64 1] ∧ m' = pt p (.row v 1 []) + X) ∨ (¬ 80 < l.length ∧ ∃ p v p2 v2 X, r = .tup [.sl p v 0 (opsT l).length, .sl p2 v2 0 l.length, .int .i64 0] ∧ m' = pt p (.row v 1 ((opsT l).map .str)) + (pt p2 (.row v2 1 ((opsC [] l).map (.int .i64))) + X)) := by
  intro S mf hS
  have hc : HC Try.prog f_rope_play [.ros l.length (l.flatMap encO)] HM.nil fun r m' => ∃ (all : List Ro) (e : Int) (x y : AVal) (ml mc : HM), r = .tup [x, y, .int .i64 e] ∧ SlR 1 x (all.map fun r => ropeO r) all.length ml ∧ m' = ml + mc ∧ (∀ r ∈ all, (txtO r).length ≤ 600) ∧ all.length ≤ 60 ∧
      ((80 < l.length ∧ y = .nils ∧ e = 1 ∧ all = []) ∨ (¬ 80 < l.length ∧ ∃ p2 v2 X, y = .sl p2 v2 0 l.length ∧ e = 0 ∧ all = ropeRun l ∧ mc = pt p2 (.row v2 1 ((opsC [] l).map (.int .i64))) + X)) := by
    refine (play_walk hP hH hPJ hHJ l hp).mono fun r m' h => ?_
    rcases h with ⟨hb, rfl⟩ | ⟨hb, x, ml, p2, v2, X, rfl, hs, rfl⟩
    · exact ⟨[], 1, .nils, .nils, HM.nil, m', rfl, .nil, (HM.nil_add _).symm, by simp, by simp, .inl ⟨hb, rfl, rfl, rfl⟩⟩
    · exact ⟨ropeRun l, 0, x, _, ml, _, rfl, hs, rfl, (rope_run l).1.len, (rope_run l).1.few, .inr ⟨hb, p2, v2, X, rfl, rfl, rfl, rfl⟩⟩
  refine rope_Play_ok.out rfl ?_ (by simp [rope_Play_fi])
  unfold vcFun rope_Play_fi
  dsimp only
  unfold rope_Play_c
  dsimp only [argF]
  with_reducible (refine c_seq ?_)
  refine c_ops ?_
  refine r_op (o_newnil hS fun v2 l2 S hS => s_no ?_)
  dsimp only [putF, rd, Frame.get]
  refine r_op (o_mov (s_no ?_))
  dsimp only [putF, rd, Frame.get]
  refine r_op (o_mov (s_no ?_))
  dsimp only [putF, rd, Frame.get]
  refine r_nil (c_keep ?_)
  dsimp only [List.map]
  dsimp only [putF, rd, Frame.get]
  with_reducible (refine on_n ?_; refine c_seq ?_)
  refine c_ops ?_
  refine r_op (o_mov (s_no ?_))
  dsimp only [putF, rd, Frame.get]
  refine r_op (o_call ?_)
  dsimp only [List.map, putF, rd, Frame.get]
  refine HC.use hc hS ?_; rintro r m' S ⟨all, e, x, y, ml, mc, rfl, hs, rfl, h600, hfew, hd⟩ hS
  refine s_no ?_
  refine r_op (o_mov (s_no ?_))
  dsimp only [putF, rd, Frame.get]
  refine r_op (o_extract rfl rfl (s_no ?_))
  dsimp only [putF, rd, Frame.get]
  refine r_op (o_extract rfl rfl (s_no ?_))
  dsimp only [putF, rd, Frame.get]
  refine r_op (o_extract rfl rfl (s_no ?_))
  dsimp only [putF, rd, Frame.get]
  refine r_op (o_mov (s_no ?_))
  dsimp only [putF, rd, Frame.get]
  refine r_op (o_mov (s_no ?_))
  dsimp only [putF, rd, Frame.get]
  refine r_op (o_mov (s_no ?_))
  dsimp only [putF, rd, Frame.get]
  refine r_nil (c_keep ?_)
  dsimp only [List.map]
  dsimp only [putF, rd, Frame.get]
  with_reducible (refine on_n ?_; refine c_seq ?_; refine c_seq ?_)
  refine c_ops ?_
  refine r_op (o_mov (s_no ?_))
  dsimp only [putF, rd, Frame.get]
  refine r_op ?_
  refine o_len hs.len ?_
  refine s_no ?_
  dsimp only [putF, rd, Frame.get]
  refine r_op (o_mov (s_no ?_))
  dsimp only [putF, rd, Frame.get]
  refine r_nil (c_keep ?_)
  dsimp only [List.map]
  dsimp only [putF, rd, Frame.get]
  with_reducible (refine on_n ?_; refine c_block ?_)
  refine c_loop (fun n xs S => ∃ (j p v : Nat), xs = [.sl p v 0 j, .int .i64 (j : Int)] ∧ j ≤ all.length ∧ n = all.length - j ∧
    Has S (pt p (.row v 1 (((all.take j).map txtO).map .str)) + (ml + (mc + mf)))) all.length ⟨0, l2, v2, rfl, Nat.zero_le _, rfl, hS.eq (by show _ = pt l2 (.row v2 1 []) + (ml + (mc + mf)); ac_rfl)⟩ ?_
  clear hS
  rintro n xs S hl' ⟨j, p, v, rfl, hj, rfl, hS⟩
  dsimp only [zipF, List.map, Frame.get]
  have lt : (all.take j).length = j := by rw [List.length_take]; omega
  with_reducible (refine c_seq ?_)
  refine c_ops ?_
  refine r_op (o_bin rfl (by first | trivial | (unfold inI64; omega)) (s_no ?_))
  dsimp only [putF, rd, Frame.get]
  refine r_nil (c_keep ?_)
  dsimp only [List.map]
  dsimp only [putF, rd, Frame.get]
  with_reducible (refine on_n ?_; refine c_seq ?_)
  refine c_dec rfl (fun hlt => ?_) (fun hlt => ?_)
  · have hj' : j < all.length := by omega
    obtain ⟨p1, v1, off, cs, rfl, rfl, hle, hcs⟩ := hs.pos (by omega)
    have ht : takeN 1 (cs.drop (off + j)) = some [ropeO (gt all (j : Int))] := by rw [show off + j = off + j * 1 by omega, take_sub hle hj', ← hcs, ropes_at hj']
    have h6 := h600 (gt all (j : Int)) (gt_mem (by omega) (by omega))
    with_reducible (refine c_skip ?_; refine on_n ?_; refine c_seq ?_; refine c_block ?_; refine c_seq ?_)
    refine c_ops ?_
    refine r_op (o_iaddr hS rfl rfl rfl (by omega) (s_no ?_))
    dsimp only [putF, rd, Frame.get]
    simp only [Nat.zero_mul, Nat.mul_zero, Nat.mul_one, Nat.add_zero, Nat.zero_add, Nat.sub_zero, Nat.reduceAdd, Nat.reduceMul]
    refine r_op (o_load hS rfl rfl (by assumption) rfl (s_no ?_))
    dsimp only [putF, rd, Frame.get]
    refine r_op (o_mov (s_no ?_))
    dsimp only [putF, rd, Frame.get]
    refine r_nil (c_keep ?_)
    dsimp only [List.map]
    dsimp only [putF, rd, Frame.get]
    with_reducible (refine on_n ?_)
    refine c_ops ?_
    refine r_op (o_mov (s_no ?_))
    dsimp only [putF, rd, Frame.get]
    refine r_op (o_mov (s_no ?_))
    dsimp only [putF, rd, Frame.get]
    refine r_op (o_call ?_)
    dsimp only [List.map, putF, rd, Frame.get]
    refine (String_rc (gt all (j : Int)) (by omega)).use ?_
    refine s_no ?_
    refine r_op (o_bsliceR rfl (s_no ?_))
    dsimp only [putF, rd, Frame.get, setCells, over]
    refine r_op ?_
    refine o_appendX hS rfl (SrcOf.one rfl) rfl (by rw [List.length_map, List.length_map, lt]; omega) (by omega) fun v' S hS => ?_
    refine s_no ?_
    dsimp only [putF, rd, Frame.get]
    refine r_op (o_mov (s_no ?_))
    dsimp only [putF, rd, Frame.get]
    refine r_nil (c_keep ?_)
    dsimp only [List.map]
    dsimp only [putF, rd, Frame.get]
    with_reducible (refine ob_n ?_; refine on_n ?_)
    refine c_ops ?_
    refine r_op (o_bin rfl (by first | trivial | (unfold inI64; omega)) (s_no ?_))
    dsimp only [putF, rd, Frame.get]
    refine r_op (o_mov (s_no ?_))
    dsimp only [putF, rd, Frame.get]
    refine r_nil (c_keep ?_)
    dsimp only [List.map]
    dsimp only [putF, rd, Frame.get]
    with_reducible (refine on_n ?_)
    refine ⟨all.length - (j + 1), by omega, j + 1, p, v', rfl, by omega, rfl, ?_⟩
    rw [List.take_add_one, ropes_take hj', List.map_append, List.map_append]; exact hS
  · obtain rfl : j = all.length := by omega
    rw [List.take_of_length_le (Nat.le_refl _)] at hS
    with_reducible (refine c_exit ?_; refine on_e ?_; refine on_e ?_; refine ob_e ?_; refine on_n ?_; refine c_seq ?_)
    refine c_ops ?_
    refine r_op (o_mov (s_no ?_))
    dsimp only [putF, rd, Frame.get]
    refine r_op (o_mov (s_no ?_))
    dsimp only [putF, rd, Frame.get]
    refine r_op (o_mov (s_no ?_))
    dsimp only [putF, rd, Frame.get]
    refine r_op (o_mov (s_no ?_))
    dsimp only [putF, rd, Frame.get]
    refine r_op (o_mov (s_no ?_))
    dsimp only [putF, rd, Frame.get]
    refine r_op (o_mov (s_no ?_))
    dsimp only [putF, rd, Frame.get]
    refine r_nil (c_keep ?_)
    dsimp only [List.map]
    dsimp only [putF, rd, Frame.get]
    with_reducible (refine on_n ?_; refine c_ret ?_)
    try dsimp only
    unfold rope_Play_r
    refine w_tmp (w_tmp (w_tmp (w_nil ?_)))
    dsimp only [retV, Frame.get]
    rcases hd with ⟨hb, rfl, rfl, rfl⟩ | ⟨hb, p2, v2, X, rfl, rfl, rfl, rfl⟩
    · exact ⟨_, .inl ⟨hb, p, v, ml + mc, rfl, rfl⟩, hS.eq (by show pt p (.row v 1 []) + (ml + (mc + mf)) = _; ac_rfl)⟩
    · have e2 := (rope_run l).2
      have e3 : (ropeRun l).length = (opsT l).length := by rw [← e2, List.length_map]
      rw [e2] at hS
      rw [e3]
      exact ⟨_, .inr ⟨hb, p, v, p2, v2, X + ml, rfl, rfl⟩, hS.eq (by ac_rfl)⟩
theorem map_str (l : List Bytes) : l.map AVal.str = l.flatMap (encT .str) := by
  induction l with
  | nil => rfl
  | cons a l ih => exact congrArg (fun z => AVal.str a :: z) ih
theorem rope_Play_con' (hP : Con Try.prog f_pos_Of pos_Of_ct) (hH : Con Try.prog f_poly_Of poly_Of_ct) (hPJ : Con Try.prog f_pos_Join pos_Join_ct) (hHJ : Con Try.prog f_poly_Join poly_Join_ct) : Con Try.prog f_rope_Play rope_Play_ct := by
  refine ⟨rope_Play_ok.able rfl, fun (l : List Go.Fu.Op) hp => ?_⟩
  refine HC.plainly (Play_walk hP hH hPJ hHJ l hp) ?_
  rintro r m' S' (⟨hb, p, v, X, rfl, rfl⟩ | ⟨hb, p, v, p2, v2, X, rfl, rfl⟩) hS
  · have e : ropeTexts l = ([], [], 1) := by unfold ropeTexts iteP; rw [if_pos hb]
    refine ⟨.tup [.sl 0 v 0 0, .nils, .int .i64 1], _, _, .tup (.cons .sl (.refl _)), has_one hS, [.sl 0 v 0 0, .nils, .int .i64 1], ?_, rfl⟩
    show resA [.own .str, .own tI, .val tI] (ropeTexts l) 0 _ _
    rw [e]
    exact .inl ⟨v, [.nils, .int .i64 1], [], rfl, rfl, .inr ⟨rfl, _, rfl, _, rfl, rfl, rfl⟩⟩
  · have e : ropeTexts l = (opsT l, opsC [] l, 0) := by unfold ropeTexts iteP; rw [if_neg hb]
    have hl2 := opsC_len l []
    rw [H.map_int, map_str] at hS
    refine ⟨.tup [.sl 0 v 0 (opsT l).length, .sl 1 v2 0 l.length, .int .i64 0], _, _, .tup (.cons .sl (.cons .sl (.refl _))), has_two hS, [.sl 0 v 0 (opsT l).length, .sl 1 v2 0 l.length, .int .i64 0], ?_, rfl⟩
    show resA [.own .str, .own tI, .val tI] (ropeTexts l) 0 _ _
    rw [e]
    refine .inl ⟨v, [.sl 1 v2 0 l.length, .int .i64 0], _, rfl, rfl, .inl ⟨v2, [.int .i64 0], [], ?_, rfl, [], rfl, rfl, rfl⟩⟩
    show _ = AVal.sl 1 v2 0 (opsC [] l).length :: _
    rw [hl2]
end Go.Proofs.Ytgiglabejffciaa.P
