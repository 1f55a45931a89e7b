/- Hunks that stand together, and what they make, walked. Conditions: none. -/
import Derived.Test.YtdbgppfoenoijaaH2
set_option linter.unusedVariables false
set_option linter.unusedSimpArgs false
set_option maxRecDepth 100000
namespace Go.Proofs.Ytdbgppfoenoijaa.H
open Go.Vc Go.Fu
theorem upTo_here {L : List Hunk} {n hi : Nat} {g : Hunk} (hg : L[n]? = some g) (h : g.1 ≤ hi) : upTo hi (L.drop n) = (g :: (upTo (max hi g.2.1) (L.drop (n + 1))).1, (upTo (max hi g.2.1) (L.drop (n + 1))).2) := by
  have e : L.drop n = g :: L.drop (n + 1) := by
    obtain ⟨h1, h2⟩ := List.getElem?_eq_some_iff.1 hg
    rw [List.drop_eq_getElem_cons h1, h2]
  rw [e, upTo, if_pos h]
theorem upTo_stop {L : List Hunk} {n hi : Nat} (h : ∀ g, L[n]? = some g → hi < g.1) : upTo hi (L.drop n) = ([], L.drop n, hi) := by
  cases hg : L[n]? with
  | none => rw [List.drop_of_length_le (by rw [List.getElem?_eq_none_iff] at hg; exact hg)]; rfl
  | some g =>
    have e : L.drop n = g :: L.drop (n + 1) := by
      obtain ⟨h1, h2⟩ := List.getElem?_eq_some_iff.1 hg
      rw [List.drop_eq_getElem_cons h1, h2]
    rw [e, upTo, if_neg (by have := h g hg; omega)]
theorem encHs_el {l : List Hunk} {j : Nat} {h : Hunk} (e : l[j]? = some h) : takeN 3 ((encHs l).drop (j * 3)) = some [.int .i64 h.1, .int .i64 h.2.1, .ros h.2.2.length (strs h.2.2)] := by
  rw [encHs_at e]; rfl
/-- A side, in memory. -/
abbrev SdR (l v : Nat) (L : List Hunk) : HM := pt l (.row v 0 [.ros L.length (encHs L)])
abbrev frU (a0 a1 a6 : AVal) (b : Bool) : Vc.Frame := [(0, a0), (1, a1), (6, a6), (26, .bool b)]

theorem upTo_walk (L : List Hunk) (hi : Nat) {lp vp : Nat} (hL : L.length ≤ 1000) : HC Try.prog f___merge_side__upTo [.ptr lp vp 0, .int .i64 (hi : Int)] (SdR lp vp L) fun r m' =>
    r = .tup [.ros (upTo hi L).1.length (encHs (upTo hi L).1), .int .i64 ((upTo hi L).2.2 : Int)] ∧ m' = SdR lp vp (upTo hi L).2.1 := by
  intro S mf hS
  refine __merge_side__upTo_ok.out rfl ?_ (by simp [__merge_side__upTo_fi])
  unfold vcFun __merge_side__upTo_fi
  dsimp only
  unfold __merge_side__upTo_c
  dsimp only [argF]
  with_reducible (refine c_seq ?_)
  refine c_ops ?_
  refine r_op (o_mov (s_no ?_))
  dsimp only [putF, rd, Frame.get]
  refine r_op (o_mov (s_no ?_))
  dsimp only [putF, rd, Frame.get]
  refine r_nil (c_keep ?_)
  dsimp only [List.map]
  dsimp only [putF, rd, Frame.get]
  with_reducible (refine on_n ?_; refine c_seq ?_)
  refine c_ops ?_
  refine r_op (o_mov (s_no ?_))
  dsimp only [putF, rd, Frame.get]
  refine r_nil (c_keep ?_)
  dsimp only [List.map]
  dsimp only [putF, rd, Frame.get]
  with_reducible (refine on_n ?_; refine c_seq ?_; refine c_block ?_)
  refine c_loop (fun k xs S => ∃ (n hi' : Nat), xs = [.int .i64 (hi' : Int), .int .i64 (n : Int)] ∧ n ≤ L.length ∧ k = L.length - n ∧
    upTo hi L = (L.take n ++ (upTo hi' (L.drop n)).1, (upTo hi' (L.drop n)).2) ∧ Has S (SdR lp vp L + mf)) L.length ⟨0, hi, rfl, Nat.zero_le _, rfl, rfl, hS⟩ ?_
  clear hS
  rintro k xs S hl' ⟨n, hi', rfl, hn, rfl, hu, hS⟩
  dsimp only [zipF, List.map, Frame.get]
  have hlen : (encHs L).length = L.length * 3 := encHs_len L
  with_reducible (refine c_seq ?_; refine c_seq ?_)
  refine c_cutN (fun F S => F = frU (.ptr lp vp 0) (.int .i64 (hi' : Int)) (.int .i64 (n : Int)) (decide (∃ g, L[n]? = some g ∧ g.1 ≤ hi')) ∧ Has S (SdR lp vp L + mf)) ?_ (fun N hN => ?_)
  rotate_left
  · by_cases hlt : n < L.length
    · obtain ⟨g, hgn⟩ : ∃ g, L[n]? = some g := ⟨_, List.getElem?_eq_getElem hlt⟩
      have ht := encHs_el hgn
      refine c_ops ?_
      refine r_op (o_mov (s_no ?_))
      dsimp only [putF, rd, Frame.get]
      refine r_op (o_mov (s_no ?_))
      dsimp only [putF, rd, Frame.get]
      refine r_op (o_nilchk rfl (s_no ?_))
      dsimp only [putF, rd, Frame.get]
      refine r_op (o_faddr rfl (s_no ?_))
      dsimp only [putF, rd, Frame.get]
      simp only [Nat.zero_mul, Nat.mul_zero, Nat.mul_one, Nat.add_zero, Nat.zero_add, Nat.sub_zero, Nat.reduceAdd, Nat.reduceMul]
      refine r_op (o_load hS rfl rfl rfl rfl (s_no ?_))
      dsimp only [putF, rd, Frame.get]
      refine r_op (o_len rfl (s_no ?_))
      dsimp only [putF, rd, Frame.get]
      refine r_op (o_bin rfl (by first | trivial | (unfold inI64; omega)) (s_no ?_))
      dsimp only [putF, rd, Frame.get]
      refine r_op ?_
      refine o_mov (s_dec (fun hg => ?_) (fun hg => by exfalso; omega))
      dsimp only [putF, rd, Frame.get]
      refine r_tt rfl (o_mov (s_no ?_))
      dsimp only [putF, rd, Frame.get]
      refine r_tt rfl (o_nilchk rfl (s_no ?_))
      dsimp only [putF, rd, Frame.get]
      refine r_tt rfl (o_faddr rfl (s_no ?_))
      dsimp only [putF, rd, Frame.get]
      simp only [Nat.zero_mul, Nat.mul_zero, Nat.mul_one, Nat.add_zero, Nat.zero_add, Nat.sub_zero, Nat.reduceAdd, Nat.reduceMul]
      refine r_tt rfl (o_load hS rfl rfl rfl rfl (s_no ?_))
      dsimp only [putF, rd, Frame.get]
      refine r_tt rfl (o_mov (s_no ?_))
      dsimp only [putF, rd, Frame.get]
      refine r_tt rfl (o_iaddrR rfl rfl (by omega) (by assumption) (s_no ?_))
      dsimp only [putF, rd, Frame.get]
      refine r_tt rfl (o_faddrR rfl (s_no ?_))
      dsimp only [putF, rd, Frame.get]
      refine r_tt rfl (o_loadR rfl rfl rfl (s_no ?_))
      dsimp only [putF, rd, Frame.get]
      refine r_tt rfl (o_mov (s_no ?_))
      dsimp only [putF, rd, Frame.get]
      refine r_tt rfl (o_bin rfl (by first | trivial | (unfold inI64; omega)) (s_no ?_))
      dsimp only [putF, rd, Frame.get]
      refine r_op (o_pickT rfl (s_no ?_))
      dsimp only [putF, rd, Frame.get]
      refine r_nil (c_keep ?_)
      dsimp only [List.map]
      dsimp only [putF, rd, Frame.get]
      refine on_n (hN _ _ ⟨?_, hS⟩)
      exact congrArg (frU (.ptr lp vp 0) (.int .i64 (hi' : Int)) (.int .i64 (n : Int))) (decide_eq_decide.2 ⟨fun q => ⟨g, hgn, by omega⟩, fun ⟨g', q1, q2⟩ => by rw [hgn] at q1; cases q1; omega⟩)
    · refine c_ops ?_
      refine r_op (o_mov (s_no ?_))
      dsimp only [putF, rd, Frame.get]
      refine r_op (o_mov (s_no ?_))
      dsimp only [putF, rd, Frame.get]
      refine r_op (o_nilchk rfl (s_no ?_))
      dsimp only [putF, rd, Frame.get]
      refine r_op (o_faddr rfl (s_no ?_))
      dsimp only [putF, rd, Frame.get]
      simp only [Nat.zero_mul, Nat.mul_zero, Nat.mul_one, Nat.add_zero, Nat.zero_add, Nat.sub_zero, Nat.reduceAdd, Nat.reduceMul]
      refine r_op (o_load hS rfl rfl rfl rfl (s_no ?_))
      dsimp only [putF, rd, Frame.get]
      refine r_op (o_len rfl (s_no ?_))
      dsimp only [putF, rd, Frame.get]
      refine r_op (o_bin rfl (by first | trivial | (unfold inI64; omega)) (s_no ?_))
      dsimp only [putF, rd, Frame.get]
      refine r_op ?_
      refine o_mov (s_dec (fun hg => by exfalso; omega) (fun hg => ?_))
      dsimp only [putF, rd, Frame.get]
      ((with_reducible refine r_st ?_ ?_); (· rfl))
      dsimp only [putF, rd, Frame.get]
      ((with_reducible refine r_st ?_ ?_); (· rfl))
      dsimp only [putF, rd, Frame.get]
      ((with_reducible refine r_st ?_ ?_); (· rfl))
      dsimp only [putF, rd, Frame.get]
      ((with_reducible refine r_st ?_ ?_); (· rfl))
      dsimp only [putF, rd, Frame.get]
      ((with_reducible refine r_st ?_ ?_); (· rfl))
      dsimp only [putF, rd, Frame.get]
      ((with_reducible refine r_st ?_ ?_); (· rfl))
      dsimp only [putF, rd, Frame.get]
      ((with_reducible refine r_st ?_ ?_); (· rfl))
      dsimp only [putF, rd, Frame.get]
      ((with_reducible refine r_st ?_ ?_); (· rfl))
      dsimp only [putF, rd, Frame.get]
      ((with_reducible refine r_st ?_ ?_); (· rfl))
      dsimp only [putF, rd, Frame.get]
      ((with_reducible refine r_st ?_ ?_); (· rfl))
      dsimp only [putF, rd, Frame.get]
      refine r_op (o_pickF rfl (s_no ?_))
      dsimp only [putF, rd, Frame.get]
      refine r_nil (c_keep ?_)
      dsimp only [List.map]
      dsimp only [putF, rd, Frame.get]
      refine on_n (hN _ _ ⟨?_, hS⟩)
      exact congrArg (frU (.ptr lp vp 0) (.int .i64 (hi' : Int)) (.int .i64 (n : Int))) (decide_eq_false (fun ⟨g', q1, q2⟩ => hlt (List.getElem?_eq_some_iff.1 q1).1)).symm
  clear hS
  rintro _ S ⟨rfl, hS⟩
  refine c_dec rfl (fun h1 => ?_) (fun h1 => ?_)
  · obtain ⟨g, hg, h1⟩ := h1
    have hlt := (List.getElem?_eq_some_iff.1 hg).1
    have ht := encHs_el hg
    with_reducible (refine c_skip ?_; refine on_n ?_; refine c_block ?_; refine c_seq ?_)
    refine c_ops ?_
    refine r_op (o_mov (s_no ?_))
    dsimp only [putF, rd, Frame.get]
    refine r_op (o_mov (s_no ?_))
    dsimp only [putF, rd, Frame.get]
    refine r_op (o_nilchk rfl (s_no ?_))
    dsimp only [putF, rd, Frame.get]
    refine r_op (o_faddr rfl (s_no ?_))
    dsimp only [putF, rd, Frame.get]
    simp only [Nat.zero_mul, Nat.mul_zero, Nat.mul_one, Nat.add_zero, Nat.zero_add, Nat.sub_zero, Nat.reduceAdd, Nat.reduceMul]
    refine r_op (o_load hS rfl rfl rfl rfl (s_no ?_))
    dsimp only [putF, rd, Frame.get]
    refine r_op (o_mov (s_no ?_))
    dsimp only [putF, rd, Frame.get]
    refine r_op (o_iaddrR rfl rfl (by omega) (by assumption) (s_no ?_))
    dsimp only [putF, rd, Frame.get]
    refine r_op (o_faddrR rfl (s_no ?_))
    dsimp only [putF, rd, Frame.get]
    refine r_op (o_loadR rfl rfl rfl (s_no ?_))
    dsimp only [putF, rd, Frame.get]
    refine r_op ?_
    refine o_max rfl rfl ?_; rw [show max (hi' : Int) (g.2.1 : Int) = ((max hi' g.2.1 : Nat) : Int) by omega]
    refine s_no ?_
    dsimp only [putF, rd, Frame.get]
    refine r_op (o_mov (s_no ?_))
    dsimp only [putF, rd, Frame.get]
    refine r_nil (c_keep ?_)
    dsimp only [List.map]
    dsimp only [putF, rd, Frame.get]
    with_reducible (refine on_n ?_)
    refine c_ops ?_
    refine r_op (o_mov (s_no ?_))
    dsimp only [putF, rd, Frame.get]
    refine r_op (o_bin rfl (by first | trivial | (unfold inI64; omega)) (s_no ?_))
    dsimp only [putF, rd, Frame.get]
    refine r_op (o_mov (s_no ?_))
    dsimp only [putF, rd, Frame.get]
    refine r_nil (c_keep ?_)
    dsimp only [List.map]
    dsimp only [putF, rd, Frame.get]
    with_reducible (refine ob_n ?_; refine on_n ?_)
    refine ⟨L.length - (n + 1), by omega, n + 1, max hi' g.2.1, rfl, by omega, rfl, ?_, hS⟩
    rw [hu, upTo_here hg h1, List.take_add_one, hg]
    simp
  have hstop := upTo_stop (L := L) (n := n) (hi := hi') fun g hg => by
    have : ¬ g.1 ≤ hi' := fun q => h1 ⟨g, hg, q⟩
    omega
  have e1 : (upTo hi L).1 = L.take n := by rw [hu, hstop]; simp
  have e2 : (upTo hi L).2.1 = L.drop n := by rw [hu, hstop]
  have e3 : (upTo hi L).2.2 = hi' := by rw [hu, hstop]
  have hcs : L.length * 3 ≤ (encHs L).length := by omega
  with_reducible (refine c_exit ?_; refine on_e ?_; refine on_e ?_; refine ob_e ?_; refine on_n ?_; refine c_seq ?_)
  refine c_ops ?_
  refine r_op (o_mov (s_no ?_))
  dsimp only [putF, rd, Frame.get]
  refine r_op (o_nilchk rfl (s_no ?_))
  dsimp only [putF, rd, Frame.get]
  refine r_op (o_faddr rfl (s_no ?_))
  dsimp only [putF, rd, Frame.get]
  simp only [Nat.zero_mul, Nat.mul_zero, Nat.mul_one, Nat.add_zero, Nat.zero_add, Nat.sub_zero, Nat.reduceAdd, Nat.reduceMul]
  refine r_op (o_load hS rfl rfl rfl rfl (s_no ?_))
  dsimp only [putF, rd, Frame.get]
  refine r_op (o_mov (s_no ?_))
  dsimp only [putF, rd, Frame.get]
  refine r_op (o_sliceR rfl ⟨_, rfl⟩ rfl (by omega) (by omega) (by assumption) (s_no ?_))
  dsimp only [putF, rd, Frame.get]
  simp only [Nat.zero_mul, Nat.mul_zero, Nat.mul_one, Nat.add_zero, Nat.zero_add, Nat.sub_zero, Nat.reduceAdd, Nat.reduceMul]
  refine r_op (o_mov (s_no ?_))
  dsimp only [putF, rd, Frame.get]
  refine r_nil (c_keep ?_)
  dsimp only [List.map]
  dsimp only [putF, rd, Frame.get]
  with_reducible (refine on_n ?_; refine c_seq ?_)
  refine c_ops ?_
  refine r_op (o_mov (s_no ?_))
  dsimp only [putF, rd, Frame.get]
  refine r_op (o_mov (s_no ?_))
  dsimp only [putF, rd, Frame.get]
  refine r_op (o_nilchk rfl (s_no ?_))
  dsimp only [putF, rd, Frame.get]
  refine r_op (o_faddr rfl (s_no ?_))
  dsimp only [putF, rd, Frame.get]
  simp only [Nat.zero_mul, Nat.mul_zero, Nat.mul_one, Nat.add_zero, Nat.zero_add, Nat.sub_zero, Nat.reduceAdd, Nat.reduceMul]
  refine r_op (o_load hS rfl rfl rfl rfl (s_no ?_))
  dsimp only [putF, rd, Frame.get]
  refine r_op (o_mov (s_no ?_))
  dsimp only [putF, rd, Frame.get]
  refine r_op (o_sliceR rfl rfl ⟨_, rfl⟩ (by omega) (by omega) (by assumption) (s_no ?_))
  dsimp only [putF, rd, Frame.get]
  simp only [Nat.zero_mul, Nat.mul_zero, Nat.mul_one, Nat.add_zero, Nat.zero_add, Nat.sub_zero, Nat.reduceAdd, Nat.reduceMul]
  refine r_op (o_nilchk rfl (s_no ?_))
  dsimp only [putF, rd, Frame.get]
  refine r_op (o_faddr rfl (s_no ?_))
  dsimp only [putF, rd, Frame.get]
  simp only [Nat.zero_mul, Nat.mul_zero, Nat.mul_one, Nat.add_zero, Nat.zero_add, Nat.sub_zero, Nat.reduceAdd, Nat.reduceMul]
  refine r_op (o_store hS rfl rfl rfl rfl (by simp) fun S hS => s_no ?_)
  dsimp only [putF, rd, Frame.get]
  dsimp only [putF, rd, Frame.get, setCells, over] at hS
  refine r_nil (c_keep ?_)
  dsimp only [List.map]
  dsimp only [putF, rd, Frame.get]
  with_reducible (refine on_n ?_; refine c_seq ?_)
  refine c_ops ?_
  refine r_op (o_mov (s_no ?_))
  dsimp only [putF, rd, Frame.get]
  refine r_op (o_mov (s_no ?_))
  dsimp only [putF, rd, Frame.get]
  refine r_op (o_mov (s_no ?_))
  dsimp only [putF, rd, Frame.get]
  refine r_op (o_mov (s_no ?_))
  dsimp only [putF, rd, Frame.get]
  refine r_nil (c_keep ?_)
  dsimp only [List.map]
  dsimp only [putF, rd, Frame.get]
  with_reducible (refine on_n ?_; refine c_ret ?_)
  dsimp only
  unfold __merge_side__upTo_r
  refine w_tmp (w_tmp (w_nil ?_))
  dsimp only [retV, Frame.get]
  have k1 : subL (encHs L) 0 (n * 3) = encHs (L.take n) := by unfold subL; rw [List.drop_zero, encHs_take]
  have k2 : subL (encHs L) (n * 3) ((L.length - n) * 3) = encHs (L.drop n) := by
    unfold subL
    rw [encHs_drop, List.take_of_length_le (by rw [encHs_len, List.length_drop]; omega)]
  have e4 : SdR lp vp (L.drop n) = pt lp (.row vp 0 [.ros (L.length - n) (subL (encHs L) (n * 3) ((L.length - n) * 3))]) := by rw [k2, ← List.length_drop]
  rw [e1, e2, e3, List.length_take, Nat.min_eq_left hn, ← k1]
  exact ⟨_, ⟨rfl, e4.symm⟩, hS⟩
end Go.Proofs.Ytdbgppfoenoijaa.H
