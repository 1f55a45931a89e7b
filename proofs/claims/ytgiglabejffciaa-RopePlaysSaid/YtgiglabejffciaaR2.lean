/- The maker of ropes, walked. Conditions: none. -/
import Derived.Test.YtgiglabejffciaaR1
set_option linter.unusedVariables false
set_option linter.unusedSimpArgs false
set_option maxRecDepth 100000
set_option maxHeartbeats 1000000
namespace Go.Proofs.Ytgiglabejffciaa.H
open Go.Vc Go.Fu
abbrev opA (o : Go.Fu.Op) : AVal := .agg [.int .i64 o.1, .str o.2.1, .int .i64 o.2.2.1, .int .i64 o.2.2.2.1, .int .i64 o.2.2.2.2.1, .int .i64 o.2.2.2.2.2]
/-- A maker in memory. -/
abbrev MkR (all : List Ro) (lm vm : Nat) (x : AVal) (ml : HM) : HM := pt lm (.row vm 0 [x]) + ml
theorem ropes_at {all : List Ro} {j : Nat} (h : j < all.length) : ((all.map (fun r => ropeO r)).drop (j * 1)).take 1 = [ropeO (gt all (j : Int))] := by
  rw [Nat.mul_one, gt_nat_in h, List.drop_eq_getElem_cons (by simpa using h)]
  simp

theorem there_walk {all : List Ro} {lm vm : Nat} {x : AVal} {ml : HM} {i : Int} (hs : SlR 1 x (all.map fun r => ropeO r) all.length ml) : HC Try.prog f___rope_maker__there [.ptr lm vm 0, .int .i64 i] (MkR all lm vm x ml) fun r m' => r = .bool (decide (opThere all.length i)) ∧ ∃ X, m' = MkR all lm vm x ml + X := by
  intro S mf hS
  refine __rope_maker__there_ok.out rfl ?_ (by simp [__rope_maker__there_fi])
  unfold vcFun __rope_maker__there_fi
  dsimp only
  unfold __rope_maker__there_c
  dsimp only [argF]
  with_reducible (refine c_seq ?_)
  refine c_ops ?_
  refine r_op (o_mov (s_no ?_))
  dsimp only [putF, rd, Frame.get]
  refine r_nil (c_keep ?_)
  dsimp only [List.map]
  dsimp only [putF, rd, Frame.get]
  with_reducible (refine on_n ?_; refine c_seq ?_)
  by_cases h0 : 0 ≤ i
  · refine c_ops ?_
    refine r_op (o_mov (s_no ?_))
    dsimp only [putF, rd, Frame.get]
    refine r_op (o_bin rfl (by first | trivial | (unfold inI64; omega)) (s_no ?_))
    dsimp only [putF, rd, Frame.get]
    refine r_op ?_
    refine o_mov (s_dec (fun hg => ?_) (fun hg => by exfalso; omega))
    dsimp only [putF, rd, Frame.get]
    refine r_tt rfl (o_mov (s_no ?_))
    dsimp only [putF, rd, Frame.get]
    refine r_tt rfl (o_mov (s_no ?_))
    dsimp only [putF, rd, Frame.get]
    refine r_tt rfl (o_nilchk rfl (s_no ?_))
    dsimp only [putF, rd, Frame.get]
    refine r_tt rfl (o_faddr rfl (s_no ?_))
    dsimp only [putF, rd, Frame.get]
    simp only [Nat.zero_mul, Nat.mul_zero, Nat.mul_one, Nat.add_zero, Nat.zero_add, Nat.sub_zero, Nat.reduceAdd, Nat.reduceMul]
    refine r_tt rfl (o_load hS rfl rfl rfl rfl (s_no ?_))
    dsimp only [putF, rd, Frame.get]
    refine r_tt rfl ?_
    refine o_len hs.len ?_
    refine s_no ?_
    dsimp only [putF, rd, Frame.get]
    refine r_tt rfl (o_bin rfl (by first | trivial | (unfold inI64; omega)) (s_no ?_))
    dsimp only [putF, rd, Frame.get]
    refine r_op (o_pickT rfl (s_no ?_))
    dsimp only [putF, rd, Frame.get]
    refine r_op (o_mov (s_no ?_))
    dsimp only [putF, rd, Frame.get]
    refine r_nil (c_keep ?_)
    dsimp only [List.map]
    dsimp only [putF, rd, Frame.get]
    with_reducible (refine on_n ?_; refine c_ret ?_)
    try dsimp only
    unfold __rope_maker__there_r
    refine w_tmp (w_nil ?_)
    dsimp only [retV, Frame.get]
    exact ⟨_, ⟨congrArg AVal.bool (decide_eq_decide.2 (by unfold opThere; omega)), HM.nil, (HM.add_nil _).symm⟩, hS⟩
  · refine c_ops ?_
    refine r_op (o_mov (s_no ?_))
    dsimp only [putF, rd, Frame.get]
    refine r_op (o_bin rfl (by first | trivial | (unfold inI64; omega)) (s_no ?_))
    dsimp only [putF, rd, Frame.get]
    refine r_op ?_
    refine o_mov (s_dec (fun hg => by exfalso; omega) (fun hg => ?_))
    dsimp only [putF, rd, Frame.get]
    ((with_reducible refine r_st ?_ ?_); (· rfl))
    dsimp only [putF, rd, Frame.get]
    ((with_reducible refine r_st ?_ ?_); (· rfl))
    dsimp only [putF, rd, Frame.get]
    ((with_reducible refine r_st ?_ ?_); (· rfl))
    dsimp only [putF, rd, Frame.get]
    ((with_reducible refine r_st ?_ ?_); (· rfl))
    dsimp only [putF, rd, Frame.get]
    ((with_reducible refine r_st ?_ ?_); (· rfl))
    dsimp only [putF, rd, Frame.get]
    ((with_reducible refine r_st ?_ ?_); (· rfl))
    dsimp only [putF, rd, Frame.get]
    ((with_reducible refine r_st ?_ ?_); (· rfl))
    dsimp only [putF, rd, Frame.get]
    refine r_op (o_pickF rfl (s_no ?_))
    dsimp only [putF, rd, Frame.get]
    refine r_op (o_mov (s_no ?_))
    dsimp only [putF, rd, Frame.get]
    refine r_nil (c_keep ?_)
    dsimp only [List.map]
    dsimp only [putF, rd, Frame.get]
    with_reducible (refine on_n ?_; refine c_ret ?_)
    try dsimp only
    unfold __rope_maker__there_r
    refine w_tmp (w_nil ?_)
    dsimp only [retV, Frame.get]
    refine ⟨_, ⟨?_, HM.nil, (HM.add_nil _).symm⟩, hS⟩
    rw [decide_eq_false (show ¬ opThere all.length i by unfold opThere; omega)]
theorem there_use {all : List Ro} {lm vm : Nat} {x : AVal} {ml m : HM} {i : Int} {g : HM → HM} [Part m (MkR all lm vm x ml) g] {S : Store} {K : AVal → Store → Prop} (hs : SlR 1 x (all.map fun r => ropeO r) all.length ml) (hS : Has S m) (h : K (.bool (decide (opThere all.length i))) S) : ACalls Try.prog f___rope_maker__there [.ptr lm vm 0, .int .i64 i] S K :=
  (there_walk hs).quiet (fun r m' h => h) hS h

theorem fault_walk {all : List Ro} {lm vm : Nat} {x : AVal} {ml : HM} {o : Go.Fu.Op} (hs : SlR 1 x (all.map fun r => ropeO r) all.length ml) (ok : ROk all) : HC Try.prog f___rope_maker__fault [.ptr lm vm 0, opA o] (MkR all lm vm x ml) fun r m' => r = .int .i64 (opFault (all.map txtO) o) ∧ ∃ X, m' = MkR all lm vm x ml + X := by
  intro S mf hS
  obtain ⟨kd, tx, A, B, At, Ct⟩ := o
  have hfew := ok.few
  refine __rope_maker__fault_ok.out rfl ?_ (by simp [__rope_maker__fault_fi])
  unfold vcFun __rope_maker__fault_fi
  dsimp only
  unfold __rope_maker__fault_c
  dsimp only [argF]
  with_reducible (refine c_seq ?_)
  refine c_ops ?_
  refine r_op (o_box hS rfl fun v3 l3 S hS => s_no ?_)
  dsimp only [putF, rd, Frame.get]
  dsimp only [putF, rd, Frame.get, setCells, over] at hS
  refine r_op (o_mov (s_no ?_))
  dsimp only [putF, rd, Frame.get]
  refine r_nil (c_keep ?_)
  dsimp only [List.map]
  dsimp only [putF, rd, Frame.get]
  have hS := hS.eq (m' := MkR all lm vm x ml + (pt l3 (.row v3 0 [.int .i64 kd, .str tx, .int .i64 A, .int .i64 B, .int .i64 At, .int .i64 Ct]) + mf)) (by ac_rfl)
  have fin : ∀ S, Has S (MkR all lm vm x ml + (pt l3 (.row v3 0 [.int .i64 kd, .str tx, .int .i64 A, .int .i64 B, .int .i64 At, .int .i64 Ct]) + mf)) → Has S ((MkR all lm vm x ml + pt l3 (.row v3 0 [.int .i64 kd, .str tx, .int .i64 A, .int .i64 B, .int .i64 At, .int .i64 Ct])) + mf) := fun S h => h.eq (by ac_rfl)
  generalize hM : MkR all lm vm x ml + (pt l3 (.row v3 0 [.int .i64 kd, .str tx, .int .i64 A, .int .i64 B, .int .i64 At, .int .i64 Ct]) + mf) = M at *
  refine on_n ?_
  refine c_seq ?_
  refine c_block ?_
  refine c_cut (fun F S => F = [(0, .ptr lm vm 0), (3, .ptr l3 v3 0), (6, .bool (decide (kd < 1 ∨ 5 < kd)))] ∧ Has S M) ?_ (fun N hN => ?_)
  rotate_left
  · subst hM
    by_cases k1 : kd < 1
    · refine c_ops ?_
      refine r_op (o_faddr rfl (s_no ?_))
      dsimp only [putF, rd, Frame.get]
      simp only [Nat.zero_mul, Nat.mul_zero, Nat.mul_one, Nat.add_zero, Nat.zero_add, Nat.sub_zero, Nat.reduceAdd, Nat.reduceMul]
      refine r_op (o_load hS rfl rfl rfl rfl (s_no ?_))
      dsimp only [putF, rd, Frame.get]
      refine r_op (o_bin rfl (by first | trivial | (unfold inI64; omega)) (s_no ?_))
      dsimp only [putF, rd, Frame.get]
      refine r_op ?_
      refine o_mov (s_dec (fun hg => ?_) (fun hg => by exfalso; omega))
      dsimp only [putF, rd, Frame.get]
      ((with_reducible refine r_sf ?_ ?_); (· rfl))
      dsimp only [putF, rd, Frame.get]
      ((with_reducible refine r_sf ?_ ?_); (· rfl))
      dsimp only [putF, rd, Frame.get]
      ((with_reducible refine r_sf ?_ ?_); (· rfl))
      dsimp only [putF, rd, Frame.get]
      refine r_op (o_pickT rfl (s_no ?_))
      dsimp only [putF, rd, Frame.get]
      refine r_op (o_mov (s_no ?_))
      dsimp only [putF, rd, Frame.get]
      refine r_nil (c_keep ?_)
      dsimp only [List.map]
      dsimp only [putF, rd, Frame.get]
      refine on_n (hN _ _ ⟨?_, hS⟩)
      rw [decide_eq_true (show kd < 1 ∨ 5 < kd from .inl k1)]
    · refine c_ops ?_
      refine r_op (o_faddr rfl (s_no ?_))
      dsimp only [putF, rd, Frame.get]
      simp only [Nat.zero_mul, Nat.mul_zero, Nat.mul_one, Nat.add_zero, Nat.zero_add, Nat.sub_zero, Nat.reduceAdd, Nat.reduceMul]
      refine r_op (o_load hS rfl rfl rfl rfl (s_no ?_))
      dsimp only [putF, rd, Frame.get]
      refine r_op (o_bin rfl (by first | trivial | (unfold inI64; omega)) (s_no ?_))
      dsimp only [putF, rd, Frame.get]
      refine r_op ?_
      refine o_mov (s_dec (fun hg => by exfalso; omega) (fun hg => ?_))
      dsimp only [putF, rd, Frame.get]
      refine r_ff rfl (o_faddr rfl (s_no ?_))
      dsimp only [putF, rd, Frame.get]
      simp only [Nat.zero_mul, Nat.mul_zero, Nat.mul_one, Nat.add_zero, Nat.zero_add, Nat.sub_zero, Nat.reduceAdd, Nat.reduceMul]
      refine r_ff rfl (o_load hS rfl rfl rfl rfl (s_no ?_))
      dsimp only [putF, rd, Frame.get]
      refine r_ff rfl (o_bin rfl (by first | trivial | (unfold inI64; omega)) (s_no ?_))
      dsimp only [putF, rd, Frame.get]
      refine r_op (o_pickF rfl (s_no ?_))
      dsimp only [putF, rd, Frame.get]
      refine r_op (o_mov (s_no ?_))
      dsimp only [putF, rd, Frame.get]
      refine r_nil (c_keep ?_)
      dsimp only [List.map]
      dsimp only [putF, rd, Frame.get]
      refine on_n (hN _ _ ⟨?_, hS⟩)
      exact congrArg (fun b => [(0, AVal.ptr lm vm 0), (3, AVal.ptr l3 v3 0), (6, AVal.bool b)]) (decide_eq_decide.2 (by omega))
  clear hS
  rintro _ S ⟨rfl, hS⟩
  refine c_dec rfl (fun h1 => ?_) (fun h1 => ?_)
  · with_reducible (refine c_seq ?_)
    refine c_ops ?_
    refine r_op (o_mov (s_no ?_))
    dsimp only [putF, rd, Frame.get]
    refine r_nil (c_keep ?_)
    dsimp only [List.map]
    dsimp only [putF, rd, Frame.get]
    with_reducible (refine on_n ?_; refine c_ret ?_; refine ob_r ?_; refine on_r ?_)
    try dsimp only
    unfold __rope_maker__fault_r
    refine w_tmp (w_nil ?_)
    dsimp only [retV, Frame.get]
    exact ⟨_, ⟨by unfold opFault; rw [if_pos h1], _, rfl⟩, fin _ hS⟩
  refine c_cut (fun F S => F = [(0, .ptr lm vm 0), (3, .ptr l3 v3 0), (15, .bool (decide ((kd ≠ 1 ∧ ¬ opThere all.length A) ∨ (kd = 2 ∧ ¬ opThere all.length B))))] ∧ Has S M) ?_ (fun N hN => ?_)
  rotate_left
  · subst hM
    by_cases k1 : kd = 1
    · refine c_ops ?_
      refine r_op (o_faddr rfl (s_no ?_))
      dsimp only [putF, rd, Frame.get]
      simp only [Nat.zero_mul, Nat.mul_zero, Nat.mul_one, Nat.add_zero, Nat.zero_add, Nat.sub_zero, Nat.reduceAdd, Nat.reduceMul]
      refine r_op (o_load hS rfl rfl rfl rfl (s_no ?_))
      dsimp only [putF, rd, Frame.get]
      refine r_op (o_bin rfl (by first | trivial | (unfold inI64; omega)) (s_no ?_))
      dsimp only [putF, rd, Frame.get]
      refine r_op ?_
      refine o_mov (s_ndec (fun hg => by exfalso; omega) (fun hg => ?_))
      dsimp only [putF, rd, Frame.get]
      ((with_reducible refine r_st ?_ ?_); (· rfl))
      dsimp only [putF, rd, Frame.get]
      ((with_reducible refine r_st ?_ ?_); (· rfl))
      dsimp only [putF, rd, Frame.get]
      ((with_reducible refine r_st ?_ ?_); (· rfl))
      dsimp only [putF, rd, Frame.get]
      ((with_reducible refine r_st ?_ ?_); (· rfl))
      dsimp only [putF, rd, Frame.get]
      ((with_reducible refine r_st ?_ ?_); (· rfl))
      dsimp only [putF, rd, Frame.get]
      refine r_op (o_pickF rfl (s_no ?_))
      dsimp only [putF, rd, Frame.get]
      refine r_op ?_
      refine o_mov (s_bool (fun h => by cases h) (fun _ => ?_))
      dsimp only [putF, rd, Frame.get]
      refine r_ff rfl (o_faddr rfl (s_no ?_))
      dsimp only [putF, rd, Frame.get]
      simp only [Nat.zero_mul, Nat.mul_zero, Nat.mul_one, Nat.add_zero, Nat.zero_add, Nat.sub_zero, Nat.reduceAdd, Nat.reduceMul]
      refine r_ff rfl (o_load hS rfl rfl rfl rfl (s_no ?_))
      dsimp only [putF, rd, Frame.get]
      refine r_ff rfl (o_bin rfl (by first | trivial | (unfold inI64; omega)) (s_no ?_))
      dsimp only [putF, rd, Frame.get]
      refine r_ff rfl ?_
      refine o_mov (s_dec (fun hg => by exfalso; omega) (fun hg => ?_))
      dsimp only [putF, rd, Frame.get]
      ((with_reducible refine r_st ?_ ?_); (· rfl))
      dsimp only [putF, rd, Frame.get]
      ((with_reducible refine r_st ?_ ?_); (· rfl))
      dsimp only [putF, rd, Frame.get]
      ((with_reducible refine r_st ?_ ?_); (· rfl))
      dsimp only [putF, rd, Frame.get]
      ((with_reducible refine r_st ?_ ?_); (· rfl))
      dsimp only [putF, rd, Frame.get]
      ((with_reducible refine r_st ?_ ?_); (· rfl))
      dsimp only [putF, rd, Frame.get]
      refine r_ff rfl (o_pickF rfl (s_no ?_))
      dsimp only [putF, rd, Frame.get]
      refine r_op (o_pickF rfl (s_no ?_))
      dsimp only [putF, rd, Frame.get]
      refine r_op (o_mov (s_no ?_))
      dsimp only [putF, rd, Frame.get]
      refine r_nil (c_keep ?_)
      dsimp only [List.map]
      dsimp only [putF, rd, Frame.get]
      refine on_n (hN _ _ ⟨?_, hS⟩)
      rw [decide_eq_false (show ¬ ((kd ≠ 1 ∧ ¬ opThere all.length A) ∨ (kd = 2 ∧ ¬ opThere all.length B)) by omega)]
    by_cases kA : opThere all.length A
    · by_cases k2 : kd = 2
      · refine c_ops ?_
        refine r_op (o_faddr rfl (s_no ?_))
        dsimp only [putF, rd, Frame.get]
        simp only [Nat.zero_mul, Nat.mul_zero, Nat.mul_one, Nat.add_zero, Nat.zero_add, Nat.sub_zero, Nat.reduceAdd, Nat.reduceMul]
        refine r_op (o_load hS rfl rfl rfl rfl (s_no ?_))
        dsimp only [putF, rd, Frame.get]
        refine r_op (o_bin rfl (by first | trivial | (unfold inI64; omega)) (s_no ?_))
        dsimp only [putF, rd, Frame.get]
        refine r_op ?_
        refine o_mov (s_ndec (fun hg => ?_) (fun hg => by exfalso; omega))
        dsimp only [putF, rd, Frame.get]
        refine r_tt rfl (o_mov (s_no ?_))
        dsimp only [putF, rd, Frame.get]
        refine r_tt rfl (o_faddr rfl (s_no ?_))
        dsimp only [putF, rd, Frame.get]
        simp only [Nat.zero_mul, Nat.mul_zero, Nat.mul_one, Nat.add_zero, Nat.zero_add, Nat.sub_zero, Nat.reduceAdd, Nat.reduceMul]
        refine r_tt rfl (o_load hS rfl rfl rfl rfl (s_no ?_))
        dsimp only [putF, rd, Frame.get]
        refine r_tt rfl (o_call ?_)
        dsimp only [List.map, putF, rd, Frame.get]
        refine there_use hs hS ?_
        refine s_no ?_
        refine r_tt rfl (o_not rfl (s_no ?_))
        dsimp only [putF, rd, Frame.get]
        refine r_op (o_pickT rfl (s_no ?_))
        dsimp only [putF, rd, Frame.get]
        refine r_op ?_
        rw [decide_eq_true kA]; refine o_mov (s_bool (fun h => by cases h) (fun _ => ?_))
        dsimp only [putF, rd, Frame.get]
        refine r_ff rfl (o_faddr rfl (s_no ?_))
        dsimp only [putF, rd, Frame.get]
        simp only [Nat.zero_mul, Nat.mul_zero, Nat.mul_one, Nat.add_zero, Nat.zero_add, Nat.sub_zero, Nat.reduceAdd, Nat.reduceMul]
        refine r_ff rfl (o_load hS rfl rfl rfl rfl (s_no ?_))
        dsimp only [putF, rd, Frame.get]
        refine r_ff rfl (o_bin rfl (by first | trivial | (unfold inI64; omega)) (s_no ?_))
        dsimp only [putF, rd, Frame.get]
        refine r_ff rfl ?_
        refine o_mov (s_dec (fun hg => ?_) (fun hg => by exfalso; omega))
        dsimp only [putF, rd, Frame.get]
        refine r_tt rfl (o_mov (s_no ?_))
        dsimp only [putF, rd, Frame.get]
        refine r_tt rfl (o_faddr rfl (s_no ?_))
        dsimp only [putF, rd, Frame.get]
        simp only [Nat.zero_mul, Nat.mul_zero, Nat.mul_one, Nat.add_zero, Nat.zero_add, Nat.sub_zero, Nat.reduceAdd, Nat.reduceMul]
        refine r_tt rfl (o_load hS rfl rfl rfl rfl (s_no ?_))
        dsimp only [putF, rd, Frame.get]
        refine r_tt rfl (o_call ?_)
        dsimp only [List.map, putF, rd, Frame.get]
        refine there_use hs hS ?_
        refine s_no ?_
        refine r_tt rfl (o_not rfl (s_no ?_))
        dsimp only [putF, rd, Frame.get]
        refine r_ff rfl (o_pickT rfl (s_no ?_))
        dsimp only [putF, rd, Frame.get]
        refine r_op (o_pickF rfl (s_no ?_))
        dsimp only [putF, rd, Frame.get]
        refine r_op (o_mov (s_no ?_))
        dsimp only [putF, rd, Frame.get]
        refine r_nil (c_keep ?_)
        dsimp only [List.map]
        dsimp only [putF, rd, Frame.get]
        refine on_n (hN _ _ ⟨?_, hS⟩)
        rw [← decide_not]
        exact congrArg (fun b => [(0, AVal.ptr lm vm 0), (3, AVal.ptr l3 v3 0), (15, AVal.bool b)]) (decide_eq_decide.2 ⟨fun h => .inr ⟨k2, h⟩, fun h => h.elim (fun q => absurd kA q.2) fun q => q.2⟩)
      · refine c_ops ?_
        refine r_op (o_faddr rfl (s_no ?_))
        dsimp only [putF, rd, Frame.get]
        simp only [Nat.zero_mul, Nat.mul_zero, Nat.mul_one, Nat.add_zero, Nat.zero_add, Nat.sub_zero, Nat.reduceAdd, Nat.reduceMul]
        refine r_op (o_load hS rfl rfl rfl rfl (s_no ?_))
        dsimp only [putF, rd, Frame.get]
        refine r_op (o_bin rfl (by first | trivial | (unfold inI64; omega)) (s_no ?_))
        dsimp only [putF, rd, Frame.get]
        refine r_op ?_
        refine o_mov (s_ndec (fun hg => ?_) (fun hg => by exfalso; omega))
        dsimp only [putF, rd, Frame.get]
        refine r_tt rfl (o_mov (s_no ?_))
        dsimp only [putF, rd, Frame.get]
        refine r_tt rfl (o_faddr rfl (s_no ?_))
        dsimp only [putF, rd, Frame.get]
        simp only [Nat.zero_mul, Nat.mul_zero, Nat.mul_one, Nat.add_zero, Nat.zero_add, Nat.sub_zero, Nat.reduceAdd, Nat.reduceMul]
        refine r_tt rfl (o_load hS rfl rfl rfl rfl (s_no ?_))
        dsimp only [putF, rd, Frame.get]
        refine r_tt rfl (o_call ?_)
        dsimp only [List.map, putF, rd, Frame.get]
        refine there_use hs hS ?_
        refine s_no ?_
        refine r_tt rfl (o_not rfl (s_no ?_))
        dsimp only [putF, rd, Frame.get]
        refine r_op (o_pickT rfl (s_no ?_))
        dsimp only [putF, rd, Frame.get]
        refine r_op ?_
        rw [decide_eq_true kA]; refine o_mov (s_bool (fun h => by cases h) (fun _ => ?_))
        dsimp only [putF, rd, Frame.get]
        refine r_ff rfl (o_faddr rfl (s_no ?_))
        dsimp only [putF, rd, Frame.get]
        simp only [Nat.zero_mul, Nat.mul_zero, Nat.mul_one, Nat.add_zero, Nat.zero_add, Nat.sub_zero, Nat.reduceAdd, Nat.reduceMul]
        refine r_ff rfl (o_load hS rfl rfl rfl rfl (s_no ?_))
        dsimp only [putF, rd, Frame.get]
        refine r_ff rfl (o_bin rfl (by first | trivial | (unfold inI64; omega)) (s_no ?_))
        dsimp only [putF, rd, Frame.get]
        refine r_ff rfl ?_
        refine o_mov (s_dec (fun hg => by exfalso; omega) (fun hg => ?_))
        dsimp only [putF, rd, Frame.get]
        ((with_reducible refine r_st ?_ ?_); (· rfl))
        dsimp only [putF, rd, Frame.get]
        ((with_reducible refine r_st ?_ ?_); (· rfl))
        dsimp only [putF, rd, Frame.get]
        ((with_reducible refine r_st ?_ ?_); (· rfl))
        dsimp only [putF, rd, Frame.get]
        ((with_reducible refine r_st ?_ ?_); (· rfl))
        dsimp only [putF, rd, Frame.get]
        ((with_reducible refine r_st ?_ ?_); (· rfl))
        dsimp only [putF, rd, Frame.get]
        refine r_ff rfl (o_pickF rfl (s_no ?_))
        dsimp only [putF, rd, Frame.get]
        refine r_op (o_pickF rfl (s_no ?_))
        dsimp only [putF, rd, Frame.get]
        refine r_op (o_mov (s_no ?_))
        dsimp only [putF, rd, Frame.get]
        refine r_nil (c_keep ?_)
        dsimp only [List.map]
        dsimp only [putF, rd, Frame.get]
        refine on_n (hN _ _ ⟨?_, hS⟩)
        rw [decide_eq_false (show ¬ ((kd ≠ 1 ∧ ¬ opThere all.length A) ∨ (kd = 2 ∧ ¬ opThere all.length B)) from fun h => h.elim (fun q => q.2 kA) fun q => k2 q.1)]
    · refine c_ops ?_
      refine r_op (o_faddr rfl (s_no ?_))
      dsimp only [putF, rd, Frame.get]
      simp only [Nat.zero_mul, Nat.mul_zero, Nat.mul_one, Nat.add_zero, Nat.zero_add, Nat.sub_zero, Nat.reduceAdd, Nat.reduceMul]
      refine r_op (o_load hS rfl rfl rfl rfl (s_no ?_))
      dsimp only [putF, rd, Frame.get]
      refine r_op (o_bin rfl (by first | trivial | (unfold inI64; omega)) (s_no ?_))
      dsimp only [putF, rd, Frame.get]
      refine r_op ?_
      refine o_mov (s_ndec (fun hg => ?_) (fun hg => by exfalso; omega))
      dsimp only [putF, rd, Frame.get]
      refine r_tt rfl (o_mov (s_no ?_))
      dsimp only [putF, rd, Frame.get]
      refine r_tt rfl (o_faddr rfl (s_no ?_))
      dsimp only [putF, rd, Frame.get]
      simp only [Nat.zero_mul, Nat.mul_zero, Nat.mul_one, Nat.add_zero, Nat.zero_add, Nat.sub_zero, Nat.reduceAdd, Nat.reduceMul]
      refine r_tt rfl (o_load hS rfl rfl rfl rfl (s_no ?_))
      dsimp only [putF, rd, Frame.get]
      refine r_tt rfl (o_call ?_)
      dsimp only [List.map, putF, rd, Frame.get]
      refine there_use hs hS ?_
      refine s_no ?_
      refine r_tt rfl (o_not rfl (s_no ?_))
      dsimp only [putF, rd, Frame.get]
      refine r_op (o_pickT rfl (s_no ?_))
      dsimp only [putF, rd, Frame.get]
      refine r_op ?_
      rw [decide_eq_false kA]; refine o_mov (s_bool (fun _ => ?_) (fun h => by cases h))
      dsimp only [putF, rd, Frame.get]
      ((with_reducible refine r_sf ?_ ?_); (· rfl))
      dsimp only [putF, rd, Frame.get]
      ((with_reducible refine r_sf ?_ ?_); (· rfl))
      dsimp only [putF, rd, Frame.get]
      ((with_reducible refine r_sf ?_ ?_); (· rfl))
      dsimp only [putF, rd, Frame.get]
      ((with_reducible refine r_sf ?_ ?_); (· rfl))
      dsimp only [putF, rd, Frame.get]
      ((with_reducible refine r_su (xs := []) ?_ ?_); (· rfl))
      dsimp only [putF, rd, Frame.get]
      ((with_reducible refine r_su (xs := []) ?_ ?_); (· rfl))
      dsimp only [putF, rd, Frame.get]
      ((with_reducible refine r_su (xs := []) ?_ ?_); (· rfl))
      dsimp only [putF, rd, Frame.get]
      ((with_reducible refine r_su (xs := []) ?_ ?_); (· rfl))
      dsimp only [putF, rd, Frame.get]
      ((with_reducible refine r_su (xs := []) ?_ ?_); (· rfl))
      dsimp only [putF, rd, Frame.get]
      ((with_reducible refine r_sf ?_ ?_); (· rfl))
      dsimp only [putF, rd, Frame.get]
      refine r_op (o_pickT rfl (s_no ?_))
      dsimp only [putF, rd, Frame.get]
      refine r_op (o_mov (s_no ?_))
      dsimp only [putF, rd, Frame.get]
      refine r_nil (c_keep ?_)
      dsimp only [List.map]
      dsimp only [putF, rd, Frame.get]
      refine on_n (hN _ _ ⟨?_, hS⟩)
      rw [decide_eq_true (show ((kd ≠ 1 ∧ ¬ opThere all.length A) ∨ (kd = 2 ∧ ¬ opThere all.length B)) from .inl ⟨k1, kA⟩)]
  clear hS
  rintro _ S ⟨rfl, hS⟩
  have e7 : ((kd ≠ 1 ∧ ¬ opThere all.length A) ∨ (kd = 2 ∧ ¬ opThere all.length B)) = ((kd ≠ 1 ∧ ¬ opThere (all.map txtO).length A) ∨ (kd = 2 ∧ ¬ opThere (all.map txtO).length B)) := by rw [List.length_map]
  refine c_dec rfl (fun h2 => ?_) (fun h2 => ?_)
  · with_reducible (refine c_seq ?_)
    refine c_ops ?_
    refine r_op (o_mov (s_no ?_))
    dsimp only [putF, rd, Frame.get]
    refine r_nil (c_keep ?_)
    dsimp only [List.map]
    dsimp only [putF, rd, Frame.get]
    with_reducible (refine on_n ?_; refine c_ret ?_; refine ob_r ?_; refine on_r ?_)
    try dsimp only
    unfold __rope_maker__fault_r
    refine w_tmp (w_nil ?_)
    dsimp only [retV, Frame.get]
    exact ⟨_, ⟨by unfold opFault; rw [if_neg h1, if_pos (e7 ▸ h2)], _, rfl⟩, fin _ hS⟩
  have t3 : ∀ {i}, ¬ ((kd ≠ 1 ∧ ¬ opThere all.length A) ∨ (kd = 2 ∧ ¬ opThere all.length B)) → kd = i → i ≠ 1 → opThere all.length A := fun h e q => Classical.byContradiction fun z => h (.inl ⟨by omega, z⟩)
  with_reducible (refine c_skip ?_; refine ob_n ?_; refine on_n ?_; refine c_seq ?_)
  refine c_cutN (fun F S => F = [(0, .ptr lm vm 0), (3, .ptr l3 v3 0), (5, .bool (decide (kd = 3 ∨ kd = 4)))] ∧ Has S M) ?_ (fun N hN => ?_)
  rotate_left
  · subst hM
    by_cases k3 : kd = 3
    · refine c_ops ?_
      refine r_op (o_faddr rfl (s_no ?_))
      dsimp only [putF, rd, Frame.get]
      simp only [Nat.zero_mul, Nat.mul_zero, Nat.mul_one, Nat.add_zero, Nat.zero_add, Nat.sub_zero, Nat.reduceAdd, Nat.reduceMul]
      refine r_op (o_load hS rfl rfl rfl rfl (s_no ?_))
      dsimp only [putF, rd, Frame.get]
      refine r_op (o_bin rfl (by first | trivial | (unfold inI64; omega)) (s_no ?_))
      dsimp only [putF, rd, Frame.get]
      refine r_op ?_
      refine o_mov (s_dec (fun hg => ?_) (fun hg => by exfalso; omega))
      dsimp only [putF, rd, Frame.get]
      ((with_reducible refine r_sf ?_ ?_); (· rfl))
      dsimp only [putF, rd, Frame.get]
      ((with_reducible refine r_sf ?_ ?_); (· rfl))
      dsimp only [putF, rd, Frame.get]
      ((with_reducible refine r_sf ?_ ?_); (· rfl))
      dsimp only [putF, rd, Frame.get]
      refine r_op (o_pickT rfl (s_no ?_))
      dsimp only [putF, rd, Frame.get]
      refine r_op (o_mov (s_no ?_))
      dsimp only [putF, rd, Frame.get]
      refine r_nil (c_keep ?_)
      dsimp only [List.map]
      dsimp only [putF, rd, Frame.get]
      refine on_n (hN _ _ ⟨?_, hS⟩)
      rw [decide_eq_true (show kd = 3 ∨ kd = 4 from .inl k3)]
    · refine c_ops ?_
      refine r_op (o_faddr rfl (s_no ?_))
      dsimp only [putF, rd, Frame.get]
      simp only [Nat.zero_mul, Nat.mul_zero, Nat.mul_one, Nat.add_zero, Nat.zero_add, Nat.sub_zero, Nat.reduceAdd, Nat.reduceMul]
      refine r_op (o_load hS rfl rfl rfl rfl (s_no ?_))
      dsimp only [putF, rd, Frame.get]
      refine r_op (o_bin rfl (by first | trivial | (unfold inI64; omega)) (s_no ?_))
      dsimp only [putF, rd, Frame.get]
      refine r_op ?_
      refine o_mov (s_dec (fun hg => by exfalso; omega) (fun hg => ?_))
      dsimp only [putF, rd, Frame.get]
      refine r_ff rfl (o_faddr rfl (s_no ?_))
      dsimp only [putF, rd, Frame.get]
      simp only [Nat.zero_mul, Nat.mul_zero, Nat.mul_one, Nat.add_zero, Nat.zero_add, Nat.sub_zero, Nat.reduceAdd, Nat.reduceMul]
      refine r_ff rfl (o_load hS rfl rfl rfl rfl (s_no ?_))
      dsimp only [putF, rd, Frame.get]
      refine r_ff rfl (o_bin rfl (by first | trivial | (unfold inI64; omega)) (s_no ?_))
      dsimp only [putF, rd, Frame.get]
      refine r_op (o_pickF rfl (s_no ?_))
      dsimp only [putF, rd, Frame.get]
      refine r_op (o_mov (s_no ?_))
      dsimp only [putF, rd, Frame.get]
      refine r_nil (c_keep ?_)
      dsimp only [List.map]
      dsimp only [putF, rd, Frame.get]
      refine on_n (hN _ _ ⟨?_, hS⟩)
      exact congrArg (fun b => [(0, AVal.ptr lm vm 0), (3, AVal.ptr l3 v3 0), (5, AVal.bool b)]) (decide_eq_decide.2 (by omega))
  clear hS
  rintro _ S ⟨rfl, hS⟩
  with_reducible (refine c_seq ?_; refine c_block ?_)
  refine c_join fun K hK => ?_
  have rest : ∀ (bb : Bool) (S : Store), (bb = true ↔ ((kd = 3 ∨ kd = 4) ∧ (At < 0 ∨ (gt (all.map txtO) A).length < At)) ∨ (kd = 5 ∧ (Ct < 0 ∨ 4 < Ct))) → Has S M → K [.bool bb] S := by
    intro bb S hbb hS
    subst hM
    refine hK _ _ rfl ?_
    dsimp only [zipF, List.map, Frame.get]
    refine c_bool rfl (fun hb => ?_) (fun hb => ?_)
    · with_reducible (refine c_seq ?_)
      refine c_ops ?_
      refine r_op (o_mov (s_no ?_))
      dsimp only [putF, rd, Frame.get]
      refine r_nil (c_keep ?_)
      dsimp only [List.map]
      dsimp only [putF, rd, Frame.get]
      with_reducible (refine on_n ?_; refine c_ret ?_; refine ob_r ?_; refine on_r ?_)
      try dsimp only
      unfold __rope_maker__fault_r
      refine w_tmp (w_nil ?_)
      dsimp only [retV, Frame.get]
      exact ⟨_, ⟨by unfold opFault; rw [if_neg h1, if_neg (e7 ▸ h2), if_pos (hbb.1 hb)], _, rfl⟩, fin _ hS⟩
    have hb' : ¬ (((kd = 3 ∨ kd = 4) ∧ (At < 0 ∨ (gt (all.map txtO) A).length < At)) ∨ (kd = 5 ∧ (Ct < 0 ∨ 4 < Ct))) := fun q => by have := hbb.2 q; rw [hb] at this; cases this
    with_reducible (refine c_seq ?_)
    refine c_ops ?_
    refine r_op (o_mov (s_no ?_))
    dsimp only [putF, rd, Frame.get]
    refine r_op (o_nilchk rfl (s_no ?_))
    dsimp only [putF, rd, Frame.get]
    refine r_op (o_faddr rfl (s_no ?_))
    dsimp only [putF, rd, Frame.get]
    simp only [Nat.zero_mul, Nat.mul_zero, Nat.mul_one, Nat.add_zero, Nat.zero_add, Nat.sub_zero, Nat.reduceAdd, Nat.reduceMul]
    refine r_op (o_load hS rfl rfl rfl rfl (s_no ?_))
    dsimp only [putF, rd, Frame.get]
    refine r_op ?_
    refine o_len hs.len ?_
    refine s_no ?_
    dsimp only [putF, rd, Frame.get]
    refine r_op (o_bin rfl (by first | trivial | (unfold inI64; omega)) (s_no ?_))
    dsimp only [putF, rd, Frame.get]
    refine r_op (o_mov (s_no ?_))
    dsimp only [putF, rd, Frame.get]
    refine r_nil (c_keep ?_)
    dsimp only [List.map]
    dsimp only [putF, rd, Frame.get]
    with_reducible (refine on_n ?_)
    refine c_dec rfl (fun h60 => ?_) (fun h60 => ?_)
    · with_reducible (refine c_seq ?_)
      refine c_ops ?_
      refine r_op (o_mov (s_no ?_))
      dsimp only [putF, rd, Frame.get]
      refine r_nil (c_keep ?_)
      dsimp only [List.map]
      dsimp only [putF, rd, Frame.get]
      with_reducible (refine on_n ?_; refine c_ret ?_; refine ob_r ?_; refine on_r ?_)
      try dsimp only
      unfold __rope_maker__fault_r
      refine w_tmp (w_nil ?_)
      dsimp only [retV, Frame.get]
      exact ⟨_, ⟨by unfold opFault; rw [if_neg h1, if_neg (e7 ▸ h2), if_neg hb', if_pos (by rw [List.length_map]; omega)], _, rfl⟩, fin _ hS⟩
    with_reducible (refine c_skip ?_; refine ob_n ?_; refine on_n ?_; refine c_seq ?_)
    refine c_ops ?_
    refine r_op (o_mov (s_no ?_))
    dsimp only [putF, rd, Frame.get]
    refine r_nil (c_keep ?_)
    dsimp only [List.map]
    dsimp only [putF, rd, Frame.get]
    with_reducible (refine on_n ?_; refine c_ret ?_)
    try dsimp only
    unfold __rope_maker__fault_r
    refine w_tmp (w_nil ?_)
    dsimp only [retV, Frame.get]
    exact ⟨_, ⟨by unfold opFault; rw [if_neg h1, if_neg (e7 ▸ h2), if_neg hb', if_neg (by rw [List.length_map]; omega)], _, rfl⟩, fin _ hS⟩
  refine c_seq ?_
  refine c_cutN (fun F S => F = [(0, .ptr lm vm 0), (3, .ptr l3 v3 0), (46, .bool (decide ((kd = 3 ∨ kd = 4) ∧ (At < 0 ∨ (gt (all.map txtO) A).length < At))))] ∧ Has S M) ?_ (fun N hN => ?_)
  rotate_left
  · subst hM
    by_cases k3 : kd = 3 ∨ kd = 4
    · rw [decide_eq_true k3]
      obtain ⟨a0, a1⟩ : opThere all.length A := k3.elim (fun e => t3 h2 e (by decide)) (fun e => t3 h2 e (by decide))
      obtain ⟨j, rfl⟩ : ∃ j : Nat, A = (j : Int) := ⟨A.toNat, by omega⟩
      have hj : j < all.length := by omega
      have egt : gt (all.map txtO) (j : Int) = txtO (gt all (j : Int)) := gt_txt ⟨a0, a1⟩
      obtain ⟨p, v, off, cs, rfl, rfl, hle, hcs⟩ := hs.pos (by omega)
      have ht : takeN 1 (cs.drop (off + j)) = some [ropeO (gt all (j : Int))] := by rw [show off + j = off + j * 1 by omega, take_sub hle hj, ← hcs, ropes_at hj]
      by_cases kn : At < 0
      · refine c_opsD0 hS fun S hS => ?_
        refine d_op (q_op rfl (o_mov (s_no ?_)))
        dsimp only [putF, rd, Frame.get]
        refine d_op (q_op rfl ?_)
        refine o_mov (s_bool (fun _ => ?_) (fun h => by cases h))
        dsimp only [putF, rd, Frame.get]
        refine d_tt rfl (q_op rfl (o_faddr rfl (s_no ?_)))
        dsimp only [putF, rd, Frame.get]
        simp only [Nat.zero_mul, Nat.mul_zero, Nat.mul_one, Nat.add_zero, Nat.zero_add, Nat.sub_zero, Nat.reduceAdd, Nat.reduceMul]
        refine d_tt rfl (q_op rfl (o_load hS rfl rfl rfl rfl (s_no ?_)))
        dsimp only [putF, rd, Frame.get]
        refine d_tt rfl (q_op rfl (o_bin rfl (by first | trivial | (unfold inI64; omega)) (s_no ?_)))
        dsimp only [putF, rd, Frame.get]
        refine d_tt rfl (q_op rfl ?_)
        refine o_mov (s_dec (fun hg => ?_) (fun hg => by exfalso; omega))
        dsimp only [putF, rd, Frame.get]
        ((with_reducible refine d_sf ?_ ?_); (· rfl))
        dsimp only [putF, rd, Frame.get]
        ((with_reducible refine d_sf ?_ ?_); (· rfl))
        dsimp only [putF, rd, Frame.get]
        ((with_reducible refine d_sf ?_ ?_); (· rfl))
        dsimp only [putF, rd, Frame.get]
        ((with_reducible refine d_sf ?_ ?_); (· rfl))
        dsimp only [putF, rd, Frame.get]
        ((with_reducible refine d_sf ?_ ?_); (· rfl))
        dsimp only [putF, rd, Frame.get]
        ((with_reducible refine d_sf ?_ ?_); (· rfl))
        dsimp only [putF, rd, Frame.get]
        ((with_reducible refine d_sf ?_ ?_); (· rfl))
        dsimp only [putF, rd, Frame.get]
        ((with_reducible refine d_sf ?_ ?_); (· rfl))
        dsimp only [putF, rd, Frame.get]
        ((with_reducible refine d_sf ?_ ?_); (· rfl))
        dsimp only [putF, rd, Frame.get]
        ((with_reducible refine d_sf ?_ ?_); (· rfl))
        dsimp only [putF, rd, Frame.get]
        ((with_reducible refine d_sf ?_ ?_); (· rfl))
        dsimp only [putF, rd, Frame.get]
        refine d_zero ?_
        ((with_reducible refine r_sf ?_ ?_); (· rfl))
        dsimp only [putF, rd, Frame.get]
        refine r_tt rfl (o_pickT rfl (s_no ?_))
        dsimp only [putF, rd, Frame.get]
        refine r_op (o_pickT rfl (s_no ?_))
        dsimp only [putF, rd, Frame.get]
        refine r_op (o_mov (s_no ?_))
        dsimp only [putF, rd, Frame.get]
        refine r_nil (c_keep ?_)
        dsimp only [List.map]
        dsimp only [putF, rd, Frame.get]
        refine on_n (hN _ _ ⟨?_, hS⟩)
        rw [decide_eq_true (show ((kd = 3 ∨ kd = 4) ∧ (At < 0 ∨ (gt (all.map txtO) (j : Int)).length < At)) from ⟨k3, .inl kn⟩)]
      · refine c_opsD0 hS fun S hS => ?_
        refine d_op (q_op rfl (o_mov (s_no ?_)))
        dsimp only [putF, rd, Frame.get]
        refine d_op (q_op rfl ?_)
        refine o_mov (s_bool (fun _ => ?_) (fun h => by cases h))
        dsimp only [putF, rd, Frame.get]
        refine d_tt rfl (q_op rfl (o_faddr rfl (s_no ?_)))
        dsimp only [putF, rd, Frame.get]
        simp only [Nat.zero_mul, Nat.mul_zero, Nat.mul_one, Nat.add_zero, Nat.zero_add, Nat.sub_zero, Nat.reduceAdd, Nat.reduceMul]
        refine d_tt rfl (q_op rfl (o_load hS rfl rfl rfl rfl (s_no ?_)))
        dsimp only [putF, rd, Frame.get]
        refine d_tt rfl (q_op rfl (o_bin rfl (by first | trivial | (unfold inI64; omega)) (s_no ?_)))
        dsimp only [putF, rd, Frame.get]
        refine d_tt rfl (q_op rfl ?_)
        refine o_mov (s_dec (fun hg => by exfalso; omega) (fun hg => ?_))
        dsimp only [putF, rd, Frame.get]
        refine d_ff rfl (q_op rfl (o_faddr rfl (s_no ?_)))
        dsimp only [putF, rd, Frame.get]
        simp only [Nat.zero_mul, Nat.mul_zero, Nat.mul_one, Nat.add_zero, Nat.zero_add, Nat.sub_zero, Nat.reduceAdd, Nat.reduceMul]
        refine d_ff rfl (q_op rfl (o_load hS rfl rfl rfl rfl (s_no ?_)))
        dsimp only [putF, rd, Frame.get]
        refine d_ff rfl (q_op rfl (o_mov (s_no ?_)))
        dsimp only [putF, rd, Frame.get]
        refine d_ff rfl (q_op rfl (o_nilchk rfl (s_no ?_)))
        dsimp only [putF, rd, Frame.get]
        refine d_ff rfl (q_op rfl (o_faddr rfl (s_no ?_)))
        dsimp only [putF, rd, Frame.get]
        simp only [Nat.zero_mul, Nat.mul_zero, Nat.mul_one, Nat.add_zero, Nat.zero_add, Nat.sub_zero, Nat.reduceAdd, Nat.reduceMul]
        refine d_ff rfl (q_op rfl (o_load hS rfl rfl rfl rfl (s_no ?_)))
        dsimp only [putF, rd, Frame.get]
        refine d_ff rfl (q_op rfl (o_faddr rfl (s_no ?_)))
        dsimp only [putF, rd, Frame.get]
        simp only [Nat.zero_mul, Nat.mul_zero, Nat.mul_one, Nat.add_zero, Nat.zero_add, Nat.sub_zero, Nat.reduceAdd, Nat.reduceMul]
        refine d_ff rfl (q_op rfl (o_load hS rfl rfl rfl rfl (s_no ?_)))
        dsimp only [putF, rd, Frame.get]
        refine d_ff rfl (q_op rfl (o_iaddr hS rfl rfl rfl (by omega) (s_no ?_)))
        dsimp only [putF, rd, Frame.get]
        simp only [Nat.zero_mul, Nat.mul_zero, Nat.mul_one, Nat.add_zero, Nat.zero_add, Nat.sub_zero, Nat.reduceAdd, Nat.reduceMul]
        refine d_ff rfl (q_op rfl (o_load hS rfl rfl (by assumption) rfl (s_no ?_)))
        dsimp only [putF, rd, Frame.get]
        refine d_ff rfl (q_call _ (RC.use (len_rc (r := gt all (j : Int))) ⟨rfl, rfl⟩) ?_)
        refine s_no ?_
        dsimp only [putF, rd, Frame.get]
        refine d_zero ?_
        refine r_ff rfl (o_bin rfl (by first | trivial | (unfold inI64; omega)) (s_no ?_))
        dsimp only [putF, rd, Frame.get]
        refine r_tt rfl (o_pickF rfl (s_no ?_))
        dsimp only [putF, rd, Frame.get]
        refine r_op (o_pickT rfl (s_no ?_))
        dsimp only [putF, rd, Frame.get]
        refine r_op (o_mov (s_no ?_))
        dsimp only [putF, rd, Frame.get]
        refine r_nil (c_keep ?_)
        dsimp only [List.map]
        dsimp only [putF, rd, Frame.get]
        refine on_n (hN _ _ ⟨?_, hS⟩)
        exact congrArg (fun b => [(0, AVal.ptr lm vm 0), (3, AVal.ptr l3 v3 0), (46, AVal.bool b)]) (decide_eq_decide.2 (by rw [egt]; omega))
    · rw [decide_eq_false k3]
      refine c_opsD0 hS fun S hS => ?_
      refine d_op (q_op rfl (o_mov (s_no ?_)))
      dsimp only [putF, rd, Frame.get]
      refine d_op (q_op rfl ?_)
      refine o_mov (s_bool (fun h => by cases h) (fun _ => ?_))
      dsimp only [putF, rd, Frame.get]
      ((with_reducible refine d_st ?_ ?_); (· rfl))
      dsimp only [putF, rd, Frame.get]
      ((with_reducible refine d_st ?_ ?_); (· rfl))
      dsimp only [putF, rd, Frame.get]
      ((with_reducible refine d_st ?_ ?_); (· rfl))
      dsimp only [putF, rd, Frame.get]
      ((with_reducible refine d_st ?_ ?_); (· rfl))
      all_goals try dsimp only [putF, rd, Frame.get]
      all_goals (((with_reducible refine d_su (xs := []) ?_ ?_); (· rfl)))
      all_goals (try dsimp only [putF, rd, Frame.get])
      all_goals (((with_reducible refine d_su (xs := []) ?_ ?_); (· rfl)))
      all_goals (try dsimp only [putF, rd, Frame.get])
      all_goals (((with_reducible refine d_su (xs := []) ?_ ?_); (· rfl)))
      all_goals (try dsimp only [putF, rd, Frame.get])
      all_goals (((with_reducible refine d_su (xs := []) ?_ ?_); (· rfl)))
      all_goals (try dsimp only [putF, rd, Frame.get])
      all_goals (((with_reducible refine d_su (xs := []) ?_ ?_); (· rfl)))
      all_goals (try dsimp only [putF, rd, Frame.get])
      all_goals (((with_reducible refine d_su (xs := []) ?_ ?_); (· rfl)))
      all_goals (try dsimp only [putF, rd, Frame.get])
      all_goals (((with_reducible refine d_su (xs := []) ?_ ?_); (· rfl)))
      all_goals (try dsimp only [putF, rd, Frame.get])
      all_goals (((with_reducible refine d_su (xs := []) ?_ ?_); (· rfl)))
      all_goals (try dsimp only [putF, rd, Frame.get])
      all_goals (((with_reducible refine d_su (xs := []) ?_ ?_); (· rfl)))
      all_goals (try dsimp only [putF, rd, Frame.get])
      all_goals (((with_reducible refine d_su (xs := []) ?_ ?_); (· rfl)))
      all_goals (try dsimp only [putF, rd, Frame.get])
      all_goals (((with_reducible refine d_su (xs := []) ?_ ?_); (· rfl)))
      all_goals (try dsimp only [putF, rd, Frame.get])
      all_goals refine d_zero ?_
      all_goals (((with_reducible refine r_su (xs := []) ?_ ?_); (· rfl)))
      all_goals (try dsimp only [putF, rd, Frame.get])
      all_goals (((with_reducible refine r_st ?_ ?_); (· rfl)))
      all_goals (try dsimp only [putF, rd, Frame.get])
      all_goals (refine r_op (o_pickF rfl (s_no ?_)))
      all_goals (try dsimp only [putF, rd, Frame.get])
      all_goals (refine r_op (o_mov (s_no ?_)))
      all_goals (try dsimp only [putF, rd, Frame.get])
      all_goals refine r_nil (c_keep ?_)
      all_goals try dsimp only [List.map]
      all_goals try dsimp only [putF, rd, Frame.get]
      refine on_n (hN _ _ ⟨?_, hS⟩)
      rw [decide_eq_false (show ¬ ((kd = 3 ∨ kd = 4) ∧ (At < 0 ∨ (gt (all.map txtO) A).length < At)) from fun q => k3 q.1)]
  clear hS
  rintro _ S ⟨rfl, hS⟩
  refine c_dec rfl (fun h4 => ?_) (fun h4 => ?_)
  · with_reducible (refine c_skip ?_; refine on_n ?_)
    refine rest (decide ((kd = 3 ∨ kd = 4) ∧ (At < 0 ∨ (gt (all.map txtO) A).length < At))) S ⟨fun _ => .inl h4, fun _ => decide_eq_true h4⟩ hS
  subst hM
  by_cases k5 : kd = 5
  · by_cases kn : Ct < 0
    · skip
      refine c_ops ?_
      refine r_op (o_faddr rfl (s_no ?_))
      dsimp only [putF, rd, Frame.get]
      simp only [Nat.zero_mul, Nat.mul_zero, Nat.mul_one, Nat.add_zero, Nat.zero_add, Nat.sub_zero, Nat.reduceAdd, Nat.reduceMul]
      refine r_op (o_load hS rfl rfl rfl rfl (s_no ?_))
      dsimp only [putF, rd, Frame.get]
      refine r_op (o_bin rfl (by first | trivial | (unfold inI64; omega)) (s_no ?_))
      dsimp only [putF, rd, Frame.get]
      refine r_op ?_
      refine o_mov (s_dec (fun hg => ?_) (fun hg => by exfalso; omega))
      dsimp only [putF, rd, Frame.get]
      refine r_tt rfl (o_faddr rfl (s_no ?_))
      dsimp only [putF, rd, Frame.get]
      simp only [Nat.zero_mul, Nat.mul_zero, Nat.mul_one, Nat.add_zero, Nat.zero_add, Nat.sub_zero, Nat.reduceAdd, Nat.reduceMul]
      refine r_tt rfl (o_load hS rfl rfl rfl rfl (s_no ?_))
      dsimp only [putF, rd, Frame.get]
      refine r_tt rfl (o_bin rfl (by first | trivial | (unfold inI64; omega)) (s_no ?_))
      dsimp only [putF, rd, Frame.get]
      refine r_tt rfl ?_
      refine o_mov (s_dec (fun hg => ?_) (fun hg => by exfalso; omega))
      dsimp only [putF, rd, Frame.get]
      ((with_reducible refine r_sf ?_ ?_); (· rfl))
      dsimp only [putF, rd, Frame.get]
      ((with_reducible refine r_sf ?_ ?_); (· rfl))
      dsimp only [putF, rd, Frame.get]
      ((with_reducible refine r_sf ?_ ?_); (· rfl))
      dsimp only [putF, rd, Frame.get]
      refine r_tt rfl (o_pickT rfl (s_no ?_))
      dsimp only [putF, rd, Frame.get]
      refine r_op (o_pickT rfl (s_no ?_))
      dsimp only [putF, rd, Frame.get]
      refine r_op (o_mov (s_no ?_))
      dsimp only [putF, rd, Frame.get]
      refine r_nil (c_keep ?_)
      dsimp only [List.map]
      dsimp only [putF, rd, Frame.get]
      with_reducible (refine on_n ?_)
      exact rest true S ⟨fun _ => .inr ⟨k5, .inl kn⟩, fun _ => rfl⟩ hS
    · skip
      refine c_ops ?_
      refine r_op (o_faddr rfl (s_no ?_))
      dsimp only [putF, rd, Frame.get]
      simp only [Nat.zero_mul, Nat.mul_zero, Nat.mul_one, Nat.add_zero, Nat.zero_add, Nat.sub_zero, Nat.reduceAdd, Nat.reduceMul]
      refine r_op (o_load hS rfl rfl rfl rfl (s_no ?_))
      dsimp only [putF, rd, Frame.get]
      refine r_op (o_bin rfl (by first | trivial | (unfold inI64; omega)) (s_no ?_))
      dsimp only [putF, rd, Frame.get]
      refine r_op ?_
      refine o_mov (s_dec (fun hg => ?_) (fun hg => by exfalso; omega))
      dsimp only [putF, rd, Frame.get]
      refine r_tt rfl (o_faddr rfl (s_no ?_))
      dsimp only [putF, rd, Frame.get]
      simp only [Nat.zero_mul, Nat.mul_zero, Nat.mul_one, Nat.add_zero, Nat.zero_add, Nat.sub_zero, Nat.reduceAdd, Nat.reduceMul]
      refine r_tt rfl (o_load hS rfl rfl rfl rfl (s_no ?_))
      dsimp only [putF, rd, Frame.get]
      refine r_tt rfl (o_bin rfl (by first | trivial | (unfold inI64; omega)) (s_no ?_))
      dsimp only [putF, rd, Frame.get]
      refine r_tt rfl ?_
      refine o_mov (s_dec (fun hg => by exfalso; omega) (fun hg => ?_))
      dsimp only [putF, rd, Frame.get]
      refine r_ff rfl (o_faddr rfl (s_no ?_))
      dsimp only [putF, rd, Frame.get]
      simp only [Nat.zero_mul, Nat.mul_zero, Nat.mul_one, Nat.add_zero, Nat.zero_add, Nat.sub_zero, Nat.reduceAdd, Nat.reduceMul]
      refine r_ff rfl (o_load hS rfl rfl rfl rfl (s_no ?_))
      dsimp only [putF, rd, Frame.get]
      refine r_ff rfl (o_bin rfl (by first | trivial | (unfold inI64; omega)) (s_no ?_))
      dsimp only [putF, rd, Frame.get]
      refine r_tt rfl (o_pickF rfl (s_no ?_))
      dsimp only [putF, rd, Frame.get]
      refine r_op (o_pickT rfl (s_no ?_))
      dsimp only [putF, rd, Frame.get]
      refine r_op (o_mov (s_no ?_))
      dsimp only [putF, rd, Frame.get]
      refine r_nil (c_keep ?_)
      dsimp only [List.map]
      dsimp only [putF, rd, Frame.get]
      with_reducible (refine on_n ?_)
      exact rest (decide (4 < Ct)) S ⟨fun q => .inr ⟨k5, .inr (of_decide_eq_true q)⟩, fun q => decide_eq_true (by omega)⟩ hS
  · skip
    refine c_ops ?_
    refine r_op (o_faddr rfl (s_no ?_))
    dsimp only [putF, rd, Frame.get]
    simp only [Nat.zero_mul, Nat.mul_zero, Nat.mul_one, Nat.add_zero, Nat.zero_add, Nat.sub_zero, Nat.reduceAdd, Nat.reduceMul]
    refine r_op (o_load hS rfl rfl rfl rfl (s_no ?_))
    dsimp only [putF, rd, Frame.get]
    refine r_op (o_bin rfl (by first | trivial | (unfold inI64; omega)) (s_no ?_))
    dsimp only [putF, rd, Frame.get]
    refine r_op ?_
    refine o_mov (s_dec (fun hg => by exfalso; omega) (fun hg => ?_))
    dsimp only [putF, rd, Frame.get]
    ((with_reducible refine r_st ?_ ?_); (· rfl))
    dsimp only [putF, rd, Frame.get]
    ((with_reducible refine r_st ?_ ?_); (· rfl))
    dsimp only [putF, rd, Frame.get]
    ((with_reducible refine r_st ?_ ?_); (· rfl))
    dsimp only [putF, rd, Frame.get]
    ((with_reducible refine r_st ?_ ?_); (· rfl))
    all_goals try dsimp only [putF, rd, Frame.get]
    all_goals (((with_reducible refine r_su (xs := []) ?_ ?_); (· rfl)))
    all_goals (try dsimp only [putF, rd, Frame.get])
    all_goals (((with_reducible refine r_su (xs := []) ?_ ?_); (· rfl)))
    all_goals (try dsimp only [putF, rd, Frame.get])
    all_goals (((with_reducible refine r_su (xs := []) ?_ ?_); (· rfl)))
    all_goals (try dsimp only [putF, rd, Frame.get])
    all_goals (((with_reducible refine r_st ?_ ?_); (· rfl)))
    all_goals (try dsimp only [putF, rd, Frame.get])
    all_goals (refine r_op (o_pickF rfl (s_no ?_)))
    all_goals (try dsimp only [putF, rd, Frame.get])
    all_goals (refine r_op (o_mov (s_no ?_)))
    all_goals (try dsimp only [putF, rd, Frame.get])
    all_goals refine r_nil (c_keep ?_)
    all_goals try dsimp only [List.map]
    all_goals try dsimp only [putF, rd, Frame.get]
    with_reducible (refine on_n ?_)
    exact rest false S ⟨fun q => by (cases q), fun q => absurd q (by omega)⟩ hS
theorem fault_use {all : List Ro} {lm vm : Nat} {x : AVal} {ml m : HM} {o : Go.Fu.Op} {g : HM → HM} [Part m (MkR all lm vm x ml) g] {S : Store} {K : AVal → Store → Prop} (hs : SlR 1 x (all.map fun r => ropeO r) all.length ml) (ok : ROk all) (hS : Has S m) (h : K (.int .i64 (opFault (all.map txtO) o)) S) : ACalls Try.prog f___rope_maker__fault [.ptr lm vm 0, opA o] S K :=
  (fault_walk hs ok).quiet (fun r m' h => h) hS h
def opLen (T : List Bytes) (o : Go.Fu.Op) : Nat := if o.1 = 1 then o.2.1.length else if o.1 = 2 then (gt T o.2.2.1).length + (gt T o.2.2.2.1).length else if o.1 = 5 then (gt T o.2.2.1).length * o.2.2.2.2.2.toNat else 0
theorem flat_len (s : Bytes) : ∀ n : Nat, ((List.replicate n s).flatten).length = s.length * n
  | 0 => rfl
  | n + 1 => by rw [List.replicate_succ, List.flatten_cons, List.length_append, flat_len s n, Nat.mul_add]; omega
theorem opLen_big {all : List Ro} {o : Go.Fu.Op} (ok : ROk all) (hf : opFault (all.map txtO) o = 0) : 600 < opLen (all.map txtO) o ↔ 600 < (opText (all.map txtO) o).length := by
  obtain ⟨f1, f2, f3, f4, f5, f6, f7⟩ := opFault_zero hf
  unfold opLen opText
  by_cases c1 : o.1 = 1
  · rw [if_pos c1, if_pos c1]
  rw [if_neg c1, if_neg c1]
  by_cases c2 : o.1 = 2
  · rw [if_pos c2, if_pos c2, List.length_append]
  rw [if_neg c2, if_neg c2]
  have tA := f3 c1
  rw [List.length_map] at tA
  have l6 : (gt (all.map txtO) o.2.2.1).length ≤ 600 := by rw [gt_txt tA]; exact ok.len _ (gt_mem tA.1 tA.2)
  by_cases c3 : o.1 = 3
  · rw [if_neg (by omega), if_pos c3, List.length_take]; omega
  rw [if_neg c3]
  by_cases c4 : o.1 = 4
  · rw [if_neg (by omega), if_pos c4, List.length_drop]; omega
  rw [if_pos (by omega), if_neg c4, flat_len]

theorem length_walk {all : List Ro} {lm vm : Nat} {x : AVal} {ml : HM} {o : Go.Fu.Op} (hs : SlR 1 x (all.map fun r => ropeO r) all.length ml) (ok : ROk all) (hf : opFault (all.map txtO) o = 0) (hx : o.2.1.length ≤ 140737488351232) : HC Try.prog f___rope_maker__length [.ptr lm vm 0, opA o] (MkR all lm vm x ml) fun r m' => r = .int .i64 (opLen (all.map txtO) o : Int) ∧ ∃ X, m' = MkR all lm vm x ml + X := by
  intro S mf hS
  obtain ⟨f1, f2, f3, f4, f5, f6, f7⟩ := opFault_zero hf
  obtain ⟨kd, tx, A, B, At, Ct⟩ := o
  simp only [List.length_map] at f1 f2 f3 f4 f5 f6 f7 hx
  unfold opLen
  simp only
  have hfew := ok.few
  refine __rope_maker__length_ok.out rfl ?_ (by simp [__rope_maker__length_fi])
  unfold vcFun __rope_maker__length_fi
  dsimp only
  unfold __rope_maker__length_c
  dsimp only [argF]
  have fin : ∀ S l3 v3, Has S (pt l3 (.row v3 0 [.int .i64 kd, .str tx, .int .i64 A, .int .i64 B, .int .i64 At, .int .i64 Ct]) + (MkR all lm vm x ml + mf)) → Has S ((MkR all lm vm x ml + pt l3 (.row v3 0 [.int .i64 kd, .str tx, .int .i64 A, .int .i64 B, .int .i64 At, .int .i64 Ct])) + mf) := fun S _ _ h => h.eq (by ac_rfl)
  with_reducible (refine c_seq ?_)
  refine c_ops ?_
  refine r_op (o_box hS rfl fun v3 l3 S hS => s_no ?_)
  dsimp only [putF, rd, Frame.get]
  dsimp only [putF, rd, Frame.get, setCells, over] at hS
  refine r_op (o_mov (s_no ?_))
  dsimp only [putF, rd, Frame.get]
  refine r_nil (c_keep ?_)
  dsimp only [List.map]
  dsimp only [putF, rd, Frame.get]
  with_reducible (refine on_n ?_; refine c_seq ?_; refine c_seq ?_)
  refine c_ops ?_
  refine r_op (o_faddr rfl (s_no ?_))
  dsimp only [putF, rd, Frame.get]
  simp only [Nat.zero_mul, Nat.mul_zero, Nat.mul_one, Nat.add_zero, Nat.zero_add, Nat.sub_zero, Nat.reduceAdd, Nat.reduceMul]
  refine r_op (o_load hS rfl rfl rfl rfl (s_no ?_))
  dsimp only [putF, rd, Frame.get]
  refine r_nil (c_keep ?_)
  dsimp only [List.map]
  dsimp only [putF, rd, Frame.get]
  with_reducible (refine on_n ?_; refine c_block ?_; refine c_seq ?_)
  refine c_ops ?_
  refine r_op (o_bin rfl (by first | trivial | (unfold inI64; omega)) (s_no ?_))
  dsimp only [putF, rd, Frame.get]
  refine r_op (o_mov (s_no ?_))
  dsimp only [putF, rd, Frame.get]
  refine r_nil (c_keep ?_)
  dsimp only [List.map]
  dsimp only [putF, rd, Frame.get]
  with_reducible (refine on_n ?_)
  refine c_dec rfl (fun c1 => ?_) (fun c1 => ?_)
  · with_reducible (refine c_seq ?_)
    refine c_ops ?_
    refine r_op (o_faddr rfl (s_no ?_))
    dsimp only [putF, rd, Frame.get]
    simp only [Nat.zero_mul, Nat.mul_zero, Nat.mul_one, Nat.add_zero, Nat.zero_add, Nat.sub_zero, Nat.reduceAdd, Nat.reduceMul]
    refine r_op (o_load hS rfl rfl rfl rfl (s_no ?_))
    dsimp only [putF, rd, Frame.get]
    refine r_op (o_len rfl (s_no ?_))
    dsimp only [putF, rd, Frame.get]
    refine r_op (o_mov (s_no ?_))
    dsimp only [putF, rd, Frame.get]
    refine r_nil (c_keep ?_)
    dsimp only [List.map]
    dsimp only [putF, rd, Frame.get]
    with_reducible (refine on_n ?_; refine c_ret ?_; refine ob_r ?_; refine on_r ?_)
    try dsimp only
    unfold __rope_maker__length_r
    refine w_tmp (w_nil ?_)
    dsimp only [retV, Frame.get]
    exact ⟨_, ⟨by rw [if_pos c1], _, rfl⟩, fin _ _ _ hS⟩
  obtain ⟨a0, a1⟩ := f3 c1
  obtain ⟨j, rfl⟩ : ∃ j : Nat, A = (j : Int) := ⟨A.toNat, by omega⟩
  have hj : j < all.length := by omega
  have egt : gt (all.map txtO) (j : Int) = txtO (gt all (j : Int)) := gt_txt ⟨a0, a1⟩
  have l6 : (txtO (gt all (j : Int))).length ≤ 600 := ok.len _ (gt_mem a0 a1)
  obtain ⟨p, v, off, cs, rfl, rfl, hle, hcs⟩ := hs.pos (by omega)
  have ht : takeN 1 (cs.drop (off + j)) = some [ropeO (gt all (j : Int))] := by rw [show off + j = off + j * 1 by omega, take_sub hle hj, ← hcs, ropes_at hj]
  with_reducible (refine c_seq ?_)
  refine c_ops ?_
  refine r_op (o_bin rfl (by first | trivial | (unfold inI64; omega)) (s_no ?_))
  dsimp only [putF, rd, Frame.get]
  refine r_op (o_mov (s_no ?_))
  dsimp only [putF, rd, Frame.get]
  refine r_nil (c_keep ?_)
  dsimp only [List.map]
  dsimp only [putF, rd, Frame.get]
  with_reducible (refine on_n ?_)
  refine c_dec rfl (fun c2 => ?_) (fun c2 => ?_)
  · obtain ⟨b0, b1⟩ := f4 c2
    obtain ⟨i, rfl⟩ : ∃ i : Nat, B = (i : Int) := ⟨B.toNat, by omega⟩
    have hi : i < all.length := by omega
    have egi : gt (all.map txtO) (i : Int) = txtO (gt all (i : Int)) := gt_txt ⟨b0, b1⟩
    have l6i : (txtO (gt all (i : Int))).length ≤ 600 := ok.len _ (gt_mem b0 b1)
    have hti : takeN 1 (cs.drop (off + i)) = some [ropeO (gt all (i : Int))] := by rw [show off + i = off + i * 1 by omega, take_sub hle hi, ← hcs, ropes_at hi]
    with_reducible (refine c_seq ?_)
    refine c_opsD0 hS fun S hS => ?_
    refine d_op (q_op rfl (o_mov (s_no ?_)))
    dsimp only [putF, rd, Frame.get]
    refine d_op (q_op rfl (o_nilchk rfl (s_no ?_)))
    dsimp only [putF, rd, Frame.get]
    refine d_op (q_op rfl (o_faddr rfl (s_no ?_)))
    dsimp only [putF, rd, Frame.get]
    simp only [Nat.zero_mul, Nat.mul_zero, Nat.mul_one, Nat.add_zero, Nat.zero_add, Nat.sub_zero, Nat.reduceAdd, Nat.reduceMul]
    refine d_op (q_op rfl (o_load hS rfl rfl rfl rfl (s_no ?_)))
    dsimp only [putF, rd, Frame.get]
    refine d_op (q_op rfl (o_faddr rfl (s_no ?_)))
    dsimp only [putF, rd, Frame.get]
    simp only [Nat.zero_mul, Nat.mul_zero, Nat.mul_one, Nat.add_zero, Nat.zero_add, Nat.sub_zero, Nat.reduceAdd, Nat.reduceMul]
    refine d_op (q_op rfl (o_load hS rfl rfl rfl rfl (s_no ?_)))
    dsimp only [putF, rd, Frame.get]
    refine d_op (q_op rfl (o_iaddr hS rfl rfl rfl (by omega) (s_no ?_)))
    dsimp only [putF, rd, Frame.get]
    simp only [Nat.zero_mul, Nat.mul_zero, Nat.mul_one, Nat.add_zero, Nat.zero_add, Nat.sub_zero, Nat.reduceAdd, Nat.reduceMul]
    refine d_op (q_op rfl (o_load hS rfl rfl (by assumption) rfl (s_no ?_)))
    dsimp only [putF, rd, Frame.get]
    refine d_op (q_op rfl (o_mov (s_no ?_)))
    dsimp only [putF, rd, Frame.get]
    refine d_op (q_op rfl (o_nilchk rfl (s_no ?_)))
    dsimp only [putF, rd, Frame.get]
    refine d_op (q_op rfl (o_faddr rfl (s_no ?_)))
    dsimp only [putF, rd, Frame.get]
    simp only [Nat.zero_mul, Nat.mul_zero, Nat.mul_one, Nat.add_zero, Nat.zero_add, Nat.sub_zero, Nat.reduceAdd, Nat.reduceMul]
    refine d_op (q_op rfl (o_load hS rfl rfl rfl rfl (s_no ?_)))
    dsimp only [putF, rd, Frame.get]
    refine d_op (q_op rfl (o_faddr rfl (s_no ?_)))
    dsimp only [putF, rd, Frame.get]
    simp only [Nat.zero_mul, Nat.mul_zero, Nat.mul_one, Nat.add_zero, Nat.zero_add, Nat.sub_zero, Nat.reduceAdd, Nat.reduceMul]
    refine d_op (q_op rfl (o_load hS rfl rfl rfl rfl (s_no ?_)))
    dsimp only [putF, rd, Frame.get]
    refine d_op (q_op rfl (o_iaddr hS rfl rfl rfl (by omega) (s_no ?_)))
    dsimp only [putF, rd, Frame.get]
    simp only [Nat.zero_mul, Nat.mul_zero, Nat.mul_one, Nat.add_zero, Nat.zero_add, Nat.sub_zero, Nat.reduceAdd, Nat.reduceMul]
    refine d_op (q_op rfl (o_load hS rfl rfl (by assumption) rfl (s_no ?_)))
    dsimp only [putF, rd, Frame.get]
    refine d_op (q_call _ (RC.use (len_rc (r := gt all (j : Int))) ⟨rfl, rfl⟩) ?_)
    refine s_no ?_
    dsimp only [putF, rd, Frame.get]
    refine d_zero ?_
    refine r_op (o_call ?_)
    dsimp only [List.map, putF, rd, Frame.get]
    refine (len_rc (r := gt all (i : Int))).use ?_
    refine s_no ?_
    refine r_op (o_bin rfl (by first | trivial | (unfold inI64; omega)) (s_no ?_))
    dsimp only [putF, rd, Frame.get]
    refine r_op (o_mov (s_no ?_))
    dsimp only [putF, rd, Frame.get]
    refine r_nil (c_keep ?_)
    dsimp only [List.map]
    dsimp only [putF, rd, Frame.get]
    with_reducible (refine on_n ?_; refine c_ret ?_; refine ob_r ?_; refine on_r ?_)
    try dsimp only
    unfold __rope_maker__length_r
    refine w_tmp (w_nil ?_)
    dsimp only [retV, Frame.get]
    exact ⟨_, ⟨by rw [if_neg c1, if_pos c2, egt, egi]; rfl, _, rfl⟩, fin _ _ _ hS⟩
  with_reducible (refine c_seq ?_)
  refine c_ops ?_
  refine r_op (o_bin rfl (by first | trivial | (unfold inI64; omega)) (s_no ?_))
  dsimp only [putF, rd, Frame.get]
  refine r_op (o_mov (s_no ?_))
  dsimp only [putF, rd, Frame.get]
  refine r_nil (c_keep ?_)
  dsimp only [List.map]
  dsimp only [putF, rd, Frame.get]
  with_reducible (refine on_n ?_)
  refine c_dec rfl (fun c5 => ?_) (fun c5 => ?_)
  · obtain ⟨g0, g1⟩ := f6 c5
    obtain ⟨n, rfl⟩ : ∃ n : Nat, Ct = (n : Int) := ⟨Ct.toNat, by omega⟩
    have hm : (txtO (gt all (j : Int))).length * n ≤ 600 * 4 := Nat.mul_le_mul l6 (by omega)
    with_reducible (refine c_seq ?_)
    refine c_opsD0 hS fun S hS => ?_
    refine d_op (q_op rfl (o_mov (s_no ?_)))
    dsimp only [putF, rd, Frame.get]
    refine d_op (q_op rfl (o_nilchk rfl (s_no ?_)))
    dsimp only [putF, rd, Frame.get]
    refine d_op (q_op rfl (o_faddr rfl (s_no ?_)))
    dsimp only [putF, rd, Frame.get]
    simp only [Nat.zero_mul, Nat.mul_zero, Nat.mul_one, Nat.add_zero, Nat.zero_add, Nat.sub_zero, Nat.reduceAdd, Nat.reduceMul]
    refine d_op (q_op rfl (o_load hS rfl rfl rfl rfl (s_no ?_)))
    dsimp only [putF, rd, Frame.get]
    refine d_op (q_op rfl (o_faddr rfl (s_no ?_)))
    dsimp only [putF, rd, Frame.get]
    simp only [Nat.zero_mul, Nat.mul_zero, Nat.mul_one, Nat.add_zero, Nat.zero_add, Nat.sub_zero, Nat.reduceAdd, Nat.reduceMul]
    refine d_op (q_op rfl (o_load hS rfl rfl rfl rfl (s_no ?_)))
    dsimp only [putF, rd, Frame.get]
    refine d_op (q_op rfl (o_iaddr hS rfl rfl rfl (by omega) (s_no ?_)))
    dsimp only [putF, rd, Frame.get]
    simp only [Nat.zero_mul, Nat.mul_zero, Nat.mul_one, Nat.add_zero, Nat.zero_add, Nat.sub_zero, Nat.reduceAdd, Nat.reduceMul]
    refine d_op (q_op rfl (o_load hS rfl rfl (by assumption) rfl (s_no ?_)))
    dsimp only [putF, rd, Frame.get]
    refine d_op (q_op rfl (o_faddr rfl (s_no ?_)))
    dsimp only [putF, rd, Frame.get]
    simp only [Nat.zero_mul, Nat.mul_zero, Nat.mul_one, Nat.add_zero, Nat.zero_add, Nat.sub_zero, Nat.reduceAdd, Nat.reduceMul]
    refine d_op (q_op rfl (o_load hS rfl rfl rfl rfl (s_no ?_)))
    dsimp only [putF, rd, Frame.get]
    refine d_op (q_call _ (RC.use (len_rc (r := gt all (j : Int))) ⟨rfl, rfl⟩) ?_)
    refine s_no ?_
    dsimp only [putF, rd, Frame.get]
    refine d_zero ?_
    refine r_op ?_
    refine o_bin rfl (by show inI64 _; rw [← Int.natCast_mul]; unfold inI64; omega) ?_
    refine s_no ?_
    dsimp only [putF, rd, Frame.get]
    refine r_op (o_mov (s_no ?_))
    dsimp only [putF, rd, Frame.get]
    refine r_nil (c_keep ?_)
    dsimp only [List.map]
    dsimp only [putF, rd, Frame.get]
    with_reducible (refine on_n ?_; refine c_ret ?_; refine ob_r ?_; refine on_r ?_)
    try dsimp only
    unfold __rope_maker__length_r
    refine w_tmp (w_nil ?_)
    dsimp only [retV, Frame.get]
    exact ⟨_, ⟨by rw [if_neg c1, if_neg c2, if_pos c5, egt]; rfl, _, rfl⟩, fin _ _ _ hS⟩
  with_reducible (refine c_skip ?_; refine ob_n ?_; refine on_n ?_; refine c_seq ?_)
  refine c_ops ?_
  refine r_op (o_mov (s_no ?_))
  dsimp only [putF, rd, Frame.get]
  refine r_nil (c_keep ?_)
  dsimp only [List.map]
  dsimp only [putF, rd, Frame.get]
  with_reducible (refine on_n ?_; refine c_ret ?_)
  try dsimp only
  unfold __rope_maker__length_r
  refine w_tmp (w_nil ?_)
  dsimp only [retV, Frame.get]
  exact ⟨_, ⟨by rw [if_neg c1, if_neg c2, if_neg c5]; rfl, _, rfl⟩, fin _ _ _ hS⟩

theorem make_walk (hP : Con Try.prog f_pos_Of pos_Of_ct) (hH : Con Try.prog f_poly_Of poly_Of_ct) (hPJ : Con Try.prog f_pos_Join pos_Join_ct) (hHJ : Con Try.prog f_poly_Join poly_Join_ct) {all : List Ro} {lm vm : Nat} {x : AVal} {ml : HM} {o : Go.Fu.Op} (hs : SlR 1 x (all.map fun r => ropeO r) all.length ml) (ok : ROk all) (hf : opFault (all.map txtO) o = 0) (hx : (opText (all.map txtO) o).length ≤ 600) : HC Try.prog f___rope_maker__make [.ptr lm vm 0, opA o] (MkR all lm vm x ml) fun r m' => r = ropeO (opRope all o) ∧ ∃ X, m' = MkR all lm vm x ml + X := by
  intro S mf hS
  obtain ⟨f1, f2, f3, f4, f5, f6, f7⟩ := opFault_zero hf
  obtain ⟨kd, tx, A, B, At, Ct⟩ := o
  simp only [List.length_map] at f1 f2 f3 f4 f5 f6 f7
  unfold opRope
  unfold opText at hx
  simp only at hx ⊢
  have hfew := ok.few
  refine __rope_maker__make_ok.out rfl ?_ (by simp [__rope_maker__make_fi])
  unfold vcFun __rope_maker__make_fi
  dsimp only
  unfold __rope_maker__make_c
  dsimp only [argF]
  have fin : ∀ S l3 v3, Has S (pt l3 (.row v3 0 [.int .i64 kd, .str tx, .int .i64 A, .int .i64 B, .int .i64 At, .int .i64 Ct]) + (MkR all lm vm x ml + mf)) → Has S ((MkR all lm vm x ml + pt l3 (.row v3 0 [.int .i64 kd, .str tx, .int .i64 A, .int .i64 B, .int .i64 At, .int .i64 Ct])) + mf) := fun S _ _ h => h.eq (by ac_rfl)
  with_reducible (refine c_seq ?_)
  refine c_ops ?_
  refine r_op (o_box hS rfl fun v3 l3 S hS => s_no ?_)
  dsimp only [putF, rd, Frame.get]
  dsimp only [putF, rd, Frame.get, setCells, over] at hS
  refine r_op (o_mov (s_no ?_))
  dsimp only [putF, rd, Frame.get]
  refine r_nil (c_keep ?_)
  dsimp only [List.map]
  dsimp only [putF, rd, Frame.get]
  with_reducible (refine on_n ?_; refine c_seq ?_; refine c_seq ?_)
  refine c_ops ?_
  refine r_op (o_faddr rfl (s_no ?_))
  dsimp only [putF, rd, Frame.get]
  simp only [Nat.zero_mul, Nat.mul_zero, Nat.mul_one, Nat.add_zero, Nat.zero_add, Nat.sub_zero, Nat.reduceAdd, Nat.reduceMul]
  refine r_op (o_load hS rfl rfl rfl rfl (s_no ?_))
  dsimp only [putF, rd, Frame.get]
  refine r_op (o_bin rfl (by first | trivial | (unfold inI64; omega)) (s_no ?_))
  dsimp only [putF, rd, Frame.get]
  refine r_nil (c_keep ?_)
  dsimp only [List.map]
  dsimp only [putF, rd, Frame.get]
  with_reducible (refine on_n ?_)
  refine c_dec rfl (fun c1 => ?_) (fun c1 => ?_)
  · rw [if_pos c1] at hx
    with_reducible (refine c_seq ?_)
    refine c_ops ?_
    refine r_op (o_faddr rfl (s_no ?_))
    dsimp only [putF, rd, Frame.get]
    simp only [Nat.zero_mul, Nat.mul_zero, Nat.mul_one, Nat.add_zero, Nat.zero_add, Nat.sub_zero, Nat.reduceAdd, Nat.reduceMul]
    refine r_op (o_load hS rfl rfl rfl rfl (s_no ?_))
    dsimp only [putF, rd, Frame.get]
    refine r_op (o_call ?_)
    dsimp only [List.map, putF, rd, Frame.get]
    refine (new_rc hP hH hPJ hHJ _ tx (Nat.le_refl _) (by omega)).use ?_
    refine s_no ?_
    refine r_op (o_mov (s_no ?_))
    dsimp only [putF, rd, Frame.get]
    refine r_nil (c_keep ?_)
    dsimp only [List.map]
    dsimp only [putF, rd, Frame.get]
    with_reducible (refine on_n ?_; refine c_ret ?_; refine on_r ?_)
    try dsimp only
    unfold __rope_maker__make_r
    refine w_tmp (w_nil ?_)
    dsimp only [retV, Frame.get]
    exact ⟨_, ⟨by rw [if_pos c1], _, rfl⟩, fin _ _ _ hS⟩
  rw [if_neg c1] at hx
  obtain ⟨a0, a1⟩ := f3 c1
  obtain ⟨j, rfl⟩ : ∃ j : Nat, A = (j : Int) := ⟨A.toNat, by omega⟩
  have hj : j < all.length := by omega
  have egt : gt (all.map txtO) (j : Int) = txtO (gt all (j : Int)) := gt_txt ⟨a0, a1⟩
  have l6 : (txtO (gt all (j : Int))).length ≤ 600 := ok.len _ (gt_mem a0 a1)
  have ba : balO (gt all (j : Int)) := ok.bal _ (gt_mem a0 a1)
  obtain ⟨p, v, off, cs, rfl, rfl, hle, hcs⟩ := hs.pos (by omega)
  have ht : takeN 1 (cs.drop (off + j)) = some [ropeO (gt all (j : Int))] := by rw [show off + j = off + j * 1 by omega, take_sub hle hj, ← hcs, ropes_at hj]
  with_reducible (refine c_skip ?_; refine on_n ?_; refine c_seq ?_)
  refine c_opsD0 hS fun S hS => ?_
  refine d_zero ?_
  refine r_op (o_mov (s_no ?_))
  dsimp only [putF, rd, Frame.get]
  refine r_op (o_nilchk rfl (s_no ?_))
  dsimp only [putF, rd, Frame.get]
  refine r_op (o_faddr rfl (s_no ?_))
  dsimp only [putF, rd, Frame.get]
  simp only [Nat.zero_mul, Nat.mul_zero, Nat.mul_one, Nat.add_zero, Nat.zero_add, Nat.sub_zero, Nat.reduceAdd, Nat.reduceMul]
  refine r_op (o_load hS rfl rfl rfl rfl (s_no ?_))
  dsimp only [putF, rd, Frame.get]
  refine r_op (o_faddr rfl (s_no ?_))
  dsimp only [putF, rd, Frame.get]
  simp only [Nat.zero_mul, Nat.mul_zero, Nat.mul_one, Nat.add_zero, Nat.zero_add, Nat.sub_zero, Nat.reduceAdd, Nat.reduceMul]
  refine r_op (o_load hS rfl rfl rfl rfl (s_no ?_))
  dsimp only [putF, rd, Frame.get]
  refine r_op (o_iaddr hS rfl rfl rfl (by omega) (s_no ?_))
  dsimp only [putF, rd, Frame.get]
  simp only [Nat.zero_mul, Nat.mul_zero, Nat.mul_one, Nat.add_zero, Nat.zero_add, Nat.sub_zero, Nat.reduceAdd, Nat.reduceMul]
  refine r_op (o_load hS rfl rfl (by assumption) rfl (s_no ?_))
  dsimp only [putF, rd, Frame.get]
  refine r_op (o_mov (s_no ?_))
  dsimp only [putF, rd, Frame.get]
  refine r_nil (c_keep ?_)
  dsimp only [List.map]
  dsimp only [putF, rd, Frame.get]
  with_reducible (refine on_n ?_; refine c_seq ?_; refine c_seq ?_)
  refine c_ops ?_
  refine r_op (o_faddr rfl (s_no ?_))
  dsimp only [putF, rd, Frame.get]
  simp only [Nat.zero_mul, Nat.mul_zero, Nat.mul_one, Nat.add_zero, Nat.zero_add, Nat.sub_zero, Nat.reduceAdd, Nat.reduceMul]
  refine r_op (o_load hS rfl rfl rfl rfl (s_no ?_))
  dsimp only [putF, rd, Frame.get]
  refine r_nil (c_keep ?_)
  dsimp only [List.map]
  dsimp only [putF, rd, Frame.get]
  with_reducible (refine on_n ?_; refine c_block ?_; refine c_seq ?_)
  refine c_ops ?_
  refine r_op (o_bin rfl (by first | trivial | (unfold inI64; omega)) (s_no ?_))
  dsimp only [putF, rd, Frame.get]
  refine r_op (o_mov (s_no ?_))
  dsimp only [putF, rd, Frame.get]
  refine r_nil (c_keep ?_)
  dsimp only [List.map]
  dsimp only [putF, rd, Frame.get]
  with_reducible (refine on_n ?_)
  refine c_dec rfl (fun c2 => ?_) (fun c2 => ?_)
  · obtain ⟨b0, b1⟩ := f4 c2
    obtain ⟨i, rfl⟩ : ∃ i : Nat, B = (i : Int) := ⟨B.toNat, by omega⟩
    have hi : i < all.length := by omega
    have l6i : (txtO (gt all (i : Int))).length ≤ 600 := ok.len _ (gt_mem b0 b1)
    have bi : balO (gt all (i : Int)) := ok.bal _ (gt_mem b0 b1)
    have hti : takeN 1 (cs.drop (off + i)) = some [ropeO (gt all (i : Int))] := by rw [show off + i = off + i * 1 by omega, take_sub hle hi, ← hcs, ropes_at hi]
    with_reducible (refine c_seq ?_)
    refine c_opsD0 hS fun S hS => ?_
    refine d_zero ?_
    refine r_op (o_mov (s_no ?_))
    dsimp only [putF, rd, Frame.get]
    refine r_op (o_mov (s_no ?_))
    dsimp only [putF, rd, Frame.get]
    refine r_op (o_nilchk rfl (s_no ?_))
    dsimp only [putF, rd, Frame.get]
    refine r_op (o_faddr rfl (s_no ?_))
    dsimp only [putF, rd, Frame.get]
    simp only [Nat.zero_mul, Nat.mul_zero, Nat.mul_one, Nat.add_zero, Nat.zero_add, Nat.sub_zero, Nat.reduceAdd, Nat.reduceMul]
    refine r_op (o_load hS rfl rfl rfl rfl (s_no ?_))
    dsimp only [putF, rd, Frame.get]
    refine r_op (o_faddr rfl (s_no ?_))
    dsimp only [putF, rd, Frame.get]
    simp only [Nat.zero_mul, Nat.mul_zero, Nat.mul_one, Nat.add_zero, Nat.zero_add, Nat.sub_zero, Nat.reduceAdd, Nat.reduceMul]
    refine r_op (o_load hS rfl rfl rfl rfl (s_no ?_))
    dsimp only [putF, rd, Frame.get]
    refine r_op (o_iaddr hS rfl rfl rfl (by omega) (s_no ?_))
    dsimp only [putF, rd, Frame.get]
    simp only [Nat.zero_mul, Nat.mul_zero, Nat.mul_one, Nat.add_zero, Nat.zero_add, Nat.sub_zero, Nat.reduceAdd, Nat.reduceMul]
    refine r_op (o_load hS rfl rfl (by assumption) rfl (s_no ?_))
    dsimp only [putF, rd, Frame.get]
    refine r_op (o_call ?_)
    dsimp only [List.map, putF, rd, Frame.get]
    refine (joinO_rc hP hH hPJ hHJ (a := gt all (j : Int)) (b := gt all (i : Int)) ba bi (by omega)).use ?_
    refine s_no ?_
    refine r_op (o_mov (s_no ?_))
    dsimp only [putF, rd, Frame.get]
    refine r_nil (c_keep ?_)
    dsimp only [List.map]
    dsimp only [putF, rd, Frame.get]
    with_reducible (refine on_n ?_; refine c_ret ?_; refine ob_r ?_; refine on_r ?_)
    try dsimp only
    unfold __rope_maker__make_r
    refine w_tmp (w_nil ?_)
    dsimp only [retV, Frame.get]
    exact ⟨_, ⟨by rw [if_neg c1, if_pos c2], _, rfl⟩, fin _ _ _ hS⟩
  rw [if_neg c2, egt] at hx
  with_reducible (refine c_seq ?_)
  refine c_ops ?_
  refine r_op (o_bin rfl (by first | trivial | (unfold inI64; omega)) (s_no ?_))
  dsimp only [putF, rd, Frame.get]
  refine r_op (o_mov (s_no ?_))
  dsimp only [putF, rd, Frame.get]
  refine r_nil (c_keep ?_)
  dsimp only [List.map]
  dsimp only [putF, rd, Frame.get]
  with_reducible (refine on_n ?_)
  refine c_dec rfl (fun c5 => ?_) (fun c5 => ?_)
  · obtain ⟨g0, g1⟩ := f6 c5
    obtain ⟨n, rfl⟩ : ∃ n : Nat, Ct = (n : Int) := ⟨Ct.toNat, by omega⟩
    rw [if_neg (by omega), if_neg (by omega), flat_len] at hx
    have hx : (txtO (gt all (j : Int))).length * n ≤ 600 := hx
    with_reducible (refine c_seq ?_)
    refine c_ops ?_
    refine r_op (o_mov (s_no ?_))
    dsimp only [putF, rd, Frame.get]
    refine r_nil (c_keep ?_)
    dsimp only [List.map]
    dsimp only [putF, rd, Frame.get]
    with_reducible (refine on_n ?_; refine c_seq ?_; refine c_seq ?_)
    refine c_ops ?_
    refine r_op (o_faddr rfl (s_no ?_))
    dsimp only [putF, rd, Frame.get]
    simp only [Nat.zero_mul, Nat.mul_zero, Nat.mul_one, Nat.add_zero, Nat.zero_add, Nat.sub_zero, Nat.reduceAdd, Nat.reduceMul]
    refine r_op (o_load hS rfl rfl rfl rfl (s_no ?_))
    dsimp only [putF, rd, Frame.get]
    refine r_op (o_mov (s_no ?_))
    dsimp only [putF, rd, Frame.get]
    refine r_nil (c_keep ?_)
    dsimp only [List.map]
    dsimp only [putF, rd, Frame.get]
    with_reducible (refine on_n ?_; refine c_block ?_)
    refine c_loop (fun k xs S => ∃ i : Nat, xs = [ropeO (rCopies i (gt all (j : Int))), .int .i64 (i : Int)] ∧ i ≤ n ∧ k = n - i ∧ Has S (pt l3 (.row v3 0 [.int .i64 kd, .str tx, .int .i64 (j : Int), .int .i64 B, .int .i64 At, .int .i64 (n : Int)]) + (MkR all lm vm (.sl p v off all.length) (pt p (.row v 1 cs)) + mf))) n ⟨0, rfl, Nat.zero_le _, rfl, hS⟩ ?_
    clear hS
    rintro k xs S hl' ⟨i, rfl, hi, rfl, hS⟩
    dsimp only [zipF, List.map, Frame.get]
    have e1 : (txtO (rCopies i (gt all (j : Int)))).length = (txtO (gt all (j : Int))).length * i := by rw [rCopies_txt, flat_len]
    with_reducible (refine c_seq ?_)
    refine c_ops ?_
    refine r_op (o_bin rfl (by first | trivial | (unfold inI64; omega)) (s_no ?_))
    dsimp only [putF, rd, Frame.get]
    refine r_nil (c_keep ?_)
    dsimp only [List.map]
    dsimp only [putF, rd, Frame.get]
    with_reducible (refine on_n ?_; refine c_seq ?_)
    refine c_dec rfl (fun hlt => ?_) (fun hlt => ?_)
    · have hm : (txtO (gt all (j : Int))).length * (i + 1) ≤ (txtO (gt all (j : Int))).length * n := Nat.mul_le_mul_left _ (by omega)
      rw [Nat.mul_add] at hm
      with_reducible (refine c_skip ?_; refine on_n ?_; refine c_seq ?_; refine c_block ?_)
      refine c_ops ?_
      refine r_op (o_mov (s_no ?_))
      dsimp only [putF, rd, Frame.get]
      refine r_op (o_mov (s_no ?_))
      dsimp only [putF, rd, Frame.get]
      refine r_op (o_call ?_)
      dsimp only [List.map, putF, rd, Frame.get]
      refine (joinO_rc hP hH hPJ hHJ (a := rCopies i (gt all (j : Int))) (b := gt all (j : Int)) (rCopies_bal ba i) ba (by rw [e1]; omega)).use ?_
      refine s_no ?_
      refine r_op (o_mov (s_no ?_))
      dsimp only [putF, rd, Frame.get]
      refine r_nil (c_keep ?_)
      dsimp only [List.map]
      dsimp only [putF, rd, Frame.get]
      with_reducible (refine ob_n ?_; refine on_n ?_)
      refine c_ops ?_
      refine r_op (o_bin rfl (by first | trivial | (unfold inI64; omega)) (s_no ?_))
      dsimp only [putF, rd, Frame.get]
      refine r_op (o_mov (s_no ?_))
      dsimp only [putF, rd, Frame.get]
      refine r_nil (c_keep ?_)
      dsimp only [List.map]
      dsimp only [putF, rd, Frame.get]
      with_reducible (refine on_n ?_)
      exact ⟨n - (i + 1), by omega, i + 1, rfl, by omega, rfl, hS⟩
    · obtain rfl : i = n := by omega
      with_reducible (refine c_exit ?_; refine on_e ?_; refine on_e ?_; refine ob_e ?_; refine on_n ?_; refine c_seq ?_)
      refine c_ops ?_
      refine r_op (o_mov (s_no ?_))
      dsimp only [putF, rd, Frame.get]
      refine r_op (o_mov (s_no ?_))
      dsimp only [putF, rd, Frame.get]
      refine r_nil (c_keep ?_)
      dsimp only [List.map]
      dsimp only [putF, rd, Frame.get]
      with_reducible (refine on_n ?_; refine c_ret ?_; refine ob_r ?_; refine on_r ?_)
      try dsimp only
      unfold __rope_maker__make_r
      refine w_tmp (w_nil ?_)
      dsimp only [retV, Frame.get]
      exact ⟨_, ⟨by rw [if_neg c1, if_neg c2, if_neg (by omega), if_neg (by omega)]; rfl, _, rfl⟩, fin _ _ _ hS⟩
  obtain ⟨h0, h1⟩ := f5 (by omega)
  obtain ⟨n, rfl⟩ : ∃ n : Nat, At = (n : Int) := ⟨At.toNat, by omega⟩
  rw [egt] at h1
  have sp := splitO_rc hP hH hPJ hHJ (r := gt all (j : Int)) (n := n) (by omega) ba (by omega)
  with_reducible (refine c_skip ?_; refine ob_n ?_; refine on_n ?_; refine c_seq ?_)
  refine c_ops ?_
  refine r_op (o_mov (s_no ?_))
  dsimp only [putF, rd, Frame.get]
  refine r_op (o_faddr rfl (s_no ?_))
  dsimp only [putF, rd, Frame.get]
  simp only [Nat.zero_mul, Nat.mul_zero, Nat.mul_one, Nat.add_zero, Nat.zero_add, Nat.sub_zero, Nat.reduceAdd, Nat.reduceMul]
  refine r_op (o_load hS rfl rfl rfl rfl (s_no ?_))
  dsimp only [putF, rd, Frame.get]
  refine r_op (o_call ?_)
  dsimp only [List.map, putF, rd, Frame.get]
  refine sp.use ?_
  refine s_no ?_
  refine r_op (o_mov (s_no ?_))
  dsimp only [putF, rd, Frame.get]
  refine r_op (o_extract rfl rfl (s_no ?_))
  dsimp only [putF, rd, Frame.get]
  refine r_op (o_extract rfl rfl (s_no ?_))
  dsimp only [putF, rd, Frame.get]
  refine r_op (o_mov (s_no ?_))
  dsimp only [putF, rd, Frame.get]
  refine r_op (o_mov (s_no ?_))
  dsimp only [putF, rd, Frame.get]
  refine r_nil (c_keep ?_)
  dsimp only [List.map]
  dsimp only [putF, rd, Frame.get]
  with_reducible (refine on_n ?_; refine c_seq ?_; refine c_seq ?_)
  refine c_ops ?_
  refine r_op (o_faddr rfl (s_no ?_))
  dsimp only [putF, rd, Frame.get]
  simp only [Nat.zero_mul, Nat.mul_zero, Nat.mul_one, Nat.add_zero, Nat.zero_add, Nat.sub_zero, Nat.reduceAdd, Nat.reduceMul]
  refine r_op (o_load hS rfl rfl rfl rfl (s_no ?_))
  dsimp only [putF, rd, Frame.get]
  refine r_op (o_bin rfl (by first | trivial | (unfold inI64; omega)) (s_no ?_))
  dsimp only [putF, rd, Frame.get]
  refine r_nil (c_keep ?_)
  dsimp only [List.map]
  dsimp only [putF, rd, Frame.get]
  with_reducible (refine on_n ?_)
  refine c_dec rfl (fun c3 => ?_) (fun c3 => ?_)
  · with_reducible (refine c_seq ?_)
    refine c_ops ?_
    refine r_op (o_mov (s_no ?_))
    dsimp only [putF, rd, Frame.get]
    refine r_op (o_mov (s_no ?_))
    dsimp only [putF, rd, Frame.get]
    refine r_nil (c_keep ?_)
    dsimp only [List.map]
    dsimp only [putF, rd, Frame.get]
    with_reducible (refine on_n ?_; refine c_ret ?_; refine on_r ?_)
    try dsimp only
    unfold __rope_maker__make_r
    refine w_tmp (w_nil ?_)
    dsimp only [retV, Frame.get]
    exact ⟨_, ⟨by rw [if_neg c1, if_neg c2, if_pos c3]; rfl, _, rfl⟩, fin _ _ _ hS⟩
  · with_reducible (refine c_skip ?_; refine on_n ?_; refine c_seq ?_)
    refine c_ops ?_
    refine r_op (o_mov (s_no ?_))
    dsimp only [putF, rd, Frame.get]
    refine r_op (o_mov (s_no ?_))
    dsimp only [putF, rd, Frame.get]
    refine r_nil (c_keep ?_)
    dsimp only [List.map]
    dsimp only [putF, rd, Frame.get]
    with_reducible (refine on_n ?_; refine c_ret ?_)
    try dsimp only
    unfold __rope_maker__make_r
    refine w_tmp (w_nil ?_)
    dsimp only [retV, Frame.get]
    exact ⟨_, ⟨by rw [if_neg c1, if_neg c2, if_neg c3, if_pos (by omega)]; rfl, _, rfl⟩, fin _ _ _ hS⟩
end Go.Proofs.Ytgiglabejffciaa.H
