/- Merging, walked. Conditions: none. -/
import Derived.Test.YtdbgppfoenoijaaH6
set_option linter.unusedVariables false
set_option linter.unusedSimpArgs false
set_option maxRecDepth 100000
set_option maxHeartbeats 1000000
namespace Go.Proofs.Ytdbgppfoenoijaa.H
open Go.Vc Go.Fu
abbrev frM (a0 a1 a2 a6 a7 a9 a24 a25 : AVal) (b : Bool) : Vc.Frame := [(0, a0), (1, a1), (2, a2), (6, a6), (7, a7), (9, a9), (24, a24), (25, a25), (35, .bool b)]
abbrev frN (a0 a6 a7 a12 a13 a14 a17 a19 a20 : AVal) (b : Bool) : Vc.Frame := [(0, a0), (6, a6), (7, a7), (12, a12), (13, a13), (14, a14), (17, a17), (19, a19), (20, a20), (99, .bool b)]
abbrev Rl (l : Lines) : AVal := .ros l.length (strs l)
theorem agg_at {L : List Lines} {j : Nat} {l : Lines} (h : L[j]? = some l) : takeN 1 ((L.map Rl).drop (j * 1)) = some [Rl l] := by
  obtain ⟨h1, h2⟩ := List.getElem?_eq_some_iff.1 h
  rw [takeN_of_le _ _ (by rw [List.length_drop, List.length_map]; omega), Nat.mul_one, List.drop_eq_getElem_cons (by rw [List.length_map]; exact h1)]
  simp [h2]

theorem Merge_walk (hW : Con Try.prog f_diff_Way diff_Way_ct) (base a b : Lines) :
    HC Try.prog f_merge_Merge [Rl base, Rl a, Rl b] HM.nil fun r m' => ∃ p v X, r = .tup [.sl p v 0 (merged base a b).1.length, .int .i64 (merged base a b).2.1, .int .i64 (merged base a b).2.2] ∧ m' = pt p (.row v 1 (strs (merged base a b).1)) + X := by
  intro S mf hS
  refine merge_Merge_ok.out rfl ?_ (by simp [merge_Merge_fi])
  unfold vcFun merge_Merge_fi
  dsimp only
  unfold merge_Merge_c
  dsimp only [argF]
  with_reducible (refine c_seq ?_)
  refine c_ops ?_
  refine r_op (o_newnil hS fun v6 l6 S hS => s_no ?_)
  dsimp only [putF, rd, Frame.get]
  refine r_op (o_mov (s_no ?_))
  dsimp only [putF, rd, Frame.get]
  refine r_op (o_mov (s_no ?_))
  dsimp only [putF, rd, Frame.get]
  refine r_nil (c_keep ?_)
  dsimp only [List.map]
  dsimp only [putF, rd, Frame.get]
  with_reducible (refine on_n ?_; refine c_seq ?_)
  refine c_ops ?_
  refine r_op (o_mov (s_no ?_))
  dsimp only [putF, rd, Frame.get]
  refine r_nil (c_keep ?_)
  dsimp only [List.map]
  dsimp only [putF, rd, Frame.get]
  with_reducible (refine on_n ?_; refine c_seq ?_; refine c_seq ?_)
  refine c_ops ?_
  refine r_op (o_mov (s_no ?_))
  dsimp only [putF, rd, Frame.get]
  refine r_op (o_mov (s_no ?_))
  dsimp only [putF, rd, Frame.get]
  refine r_op (o_mov (s_no ?_))
  dsimp only [putF, rd, Frame.get]
  refine r_op (o_build rfl (s_no ?_))
  dsimp only [putF, rd, Frame.get, setCells, over]
  refine r_op (o_mov (s_no ?_))
  dsimp only [putF, rd, Frame.get]
  refine r_nil (c_keep ?_)
  dsimp only [List.map]
  dsimp only [putF, rd, Frame.get]
  with_reducible (refine on_n ?_; refine c_block ?_)
  refine c_loop (fun k xs S => ∃ j : Nat, xs = [.sl l6 v6 0 0, .int .i64 0, .int .i64 (j : Int)] ∧ j ≤ 3 ∧ k = 3 - j ∧ (∀ l ∈ [base, a, b].take j, ¬ (80 < l.length ∨ ∃ s ∈ l, 600 < s.length)) ∧ Has S (pt l6 (.row v6 1 []) + (HM.nil + mf))) 3 ⟨0, rfl, by omega, rfl, fun l hl => by simp at hl, hS⟩ ?_
  clear hS
  rintro k xs S hl' ⟨j, rfl, hj, rfl, hok, hS⟩
  dsimp only [zipF, List.map, Frame.get]
  with_reducible (refine c_seq ?_)
  refine c_ops ?_
  refine r_op (o_bin rfl (by first | trivial | (unfold inI64; omega)) (s_no ?_))
  dsimp only [putF, rd, Frame.get]
  refine r_nil (c_keep ?_)
  dsimp only [List.map]
  dsimp only [putF, rd, Frame.get]
  with_reducible (refine on_n ?_; refine c_seq ?_)
  refine c_dec rfl (fun hlt => ?_) (fun hlt => ?_)
  · obtain ⟨l, hl⟩ : ∃ l, [base, a, b][j]? = some l := ⟨_, List.getElem?_eq_getElem (by simp; omega)⟩
    have hlm := List.mem_of_getElem? hl
    have ht := agg_at hl
    with_reducible (refine c_skip ?_; refine on_n ?_; refine c_seq ?_; refine c_block ?_; refine c_seq ?_)
    refine c_ops ?_
    refine r_op ?_
    refine o_indexA (j := j) rfl rfl (by omega) ht rfl ?_
    refine s_no ?_
    dsimp only [putF, rd, Frame.get]
    refine r_op (o_mov (s_no ?_))
    dsimp only [putF, rd, Frame.get]
    refine r_nil (c_keep ?_)
    dsimp only [List.map]
    dsimp only [putF, rd, Frame.get]
    with_reducible (refine on_n ?_; refine c_seq ?_)
    refine c_cutN (fun F S => F = frM (Rl base) (Rl a) (Rl b) (.sl l6 v6 0 0) (.int .i64 0) (.fn (.func f_merge_Merge_1) [] []) (.agg [Rl base, Rl a, Rl b]) (.int .i64 (j : Int)) (decide (80 < l.length ∨ ∃ s ∈ l, 600 < s.length)) ∧ Has S (pt l6 (.row v6 1 []) + (HM.nil + mf))) ?_ (fun N hN => ?_)
    rotate_left
    · by_cases h8 : 80 < l.length
      · refine c_ops ?_
        refine r_op (o_mov (s_no ?_))
        dsimp only [putF, rd, Frame.get]
        refine r_op (o_len rfl (s_no ?_))
        dsimp only [putF, rd, Frame.get]
        refine r_op (o_bin rfl (by first | trivial | (unfold inI64; omega)) (s_no ?_))
        dsimp only [putF, rd, Frame.get]
        refine r_op ?_
        refine o_mov (s_dec (fun hg => ?_) (fun hg => by exfalso; omega))
        dsimp only [putF, rd, Frame.get]
        ((with_reducible refine r_sf ?_ ?_); (· rfl))
        dsimp only [putF, rd, Frame.get]
        ((with_reducible refine r_sf ?_ ?_); (· rfl))
        dsimp only [putF, rd, Frame.get]
        ((with_reducible refine r_sf ?_ ?_); (· rfl))
        dsimp only [putF, rd, Frame.get]
        refine r_op (o_pickT rfl (s_no ?_))
        dsimp only [putF, rd, Frame.get]
        refine r_nil (c_keep ?_)
        dsimp only [List.map]
        dsimp only [putF, rd, Frame.get]
        refine on_n (hN _ _ ⟨?_, hS⟩)
        exact congrArg (frM (Rl base) (Rl a) (Rl b) (.sl l6 v6 0 0) (.int .i64 0) (.fn (.func f_merge_Merge_1) [] []) (.agg [Rl base, Rl a, Rl b]) (.int .i64 (j : Int))) (decide_eq_true (show 80 < l.length ∨ ∃ s ∈ l, 600 < s.length from .inl h8)).symm
      · refine c_ops ?_
        refine r_op (o_mov (s_no ?_))
        dsimp only [putF, rd, Frame.get]
        refine r_op (o_len rfl (s_no ?_))
        dsimp only [putF, rd, Frame.get]
        refine r_op (o_bin rfl (by first | trivial | (unfold inI64; omega)) (s_no ?_))
        dsimp only [putF, rd, Frame.get]
        refine r_op ?_
        refine o_mov (s_dec (fun hg => by exfalso; omega) (fun hg => ?_))
        dsimp only [putF, rd, Frame.get]
        refine r_ff rfl (o_mov (s_no ?_))
        dsimp only [putF, rd, Frame.get]
        refine r_ff rfl (o_mov (s_no ?_))
        dsimp only [putF, rd, Frame.get]
        refine r_ff rfl (o_call ?_)
        dsimp only [List.map, putF, rd, Frame.get]
        refine (contains_rc l (by omega)).use ?_
        refine s_no ?_
        refine r_op (o_pickF rfl (s_no ?_))
        dsimp only [putF, rd, Frame.get]
        refine r_nil (c_keep ?_)
        dsimp only [List.map]
        dsimp only [putF, rd, Frame.get]
        refine on_n (hN _ _ ⟨?_, hS⟩)
        exact congrArg (frM (Rl base) (Rl a) (Rl b) (.sl l6 v6 0 0) (.int .i64 0) (.fn (.func f_merge_Merge_1) [] []) (.agg [Rl base, Rl a, Rl b]) (.int .i64 (j : Int))) (decide_eq_decide.2 ⟨fun q => .inr q, fun q => q.resolve_left h8⟩)
    clear hS
    rintro _ S ⟨rfl, hS⟩
    refine c_dec rfl (fun hc => ?_) (fun hc => ?_)
    · have hf : linesFault [base, a, b] = 1 := (linesFault_iff _).2.2 ⟨l, hlm, hc⟩
      have e : merged base a b = ([], 0, 1) := by unfold merged; rw [hf]; rfl
      rw [e]
      with_reducible (refine c_seq ?_)
      refine c_ops ?_
      refine r_op (o_newnil hS fun v6 l6 S hS => s_no ?_)
      dsimp only [putF, rd, Frame.get]
      refine r_op (o_mov (s_no ?_))
      dsimp only [putF, rd, Frame.get]
      refine r_op (o_mov (s_no ?_))
      dsimp only [putF, rd, Frame.get]
      refine r_nil (c_keep ?_)
      dsimp only [List.map]
      dsimp only [putF, rd, Frame.get]
      with_reducible (refine on_n ?_; refine c_ret ?_; refine ob_r ?_; refine on_r ?_; refine on_r ?_; refine ob_r ?_; refine on_r ?_)
      dsimp only
      unfold merge_Merge_r
      refine w_tmp (w_tmp (w_tmp (w_nil ?_)))
      dsimp only [retV, Frame.get]
      exact ⟨_, ⟨l6, v6, _, rfl, rfl⟩, hS.as2⟩
    · with_reducible (refine c_skip ?_; refine ob_n ?_; refine on_n ?_)
      refine c_ops ?_
      refine r_op (o_bin rfl (by first | trivial | (unfold inI64; omega)) (s_no ?_))
      dsimp only [putF, rd, Frame.get]
      refine r_op (o_mov (s_no ?_))
      dsimp only [putF, rd, Frame.get]
      refine r_nil (c_keep ?_)
      dsimp only [List.map]
      dsimp only [putF, rd, Frame.get]
      with_reducible (refine on_n ?_)
      refine ⟨3 - (j + 1), by omega, j + 1, rfl, by omega, rfl, fun l' hl' => ?_, hS⟩
      rw [List.take_add_one, hl] at hl'
      rcases List.mem_append.1 hl' with q | q
      · exact hok l' q
      · simp at q; subst q; exact hc
  obtain rfl : j = 3 := by omega
  have hf : linesFault [base, a, b] = 0 := (linesFault_iff _).1.resolve_right fun q => by
    obtain ⟨l, hl, q⟩ := (linesFault_iff _).2.1 q
    exact hok l hl q
  have k1 : base.length ≤ 80 := by have := hok base (by simp); omega
  have k2 : a.length ≤ 80 := by have := hok a (by simp); omega
  have k3 : b.length ≤ 80 := by have := hok b (by simp); omega
  clear hok hlt hl' hj
  have em : merged base a b = ((mergeF base ((hunksOf base a).length + (hunksOf base b).length + 1) 0 (hunksOf base a) (hunksOf base b)).1, ((mergeF base ((hunksOf base a).length + (hunksOf base b).length + 1) 0 (hunksOf base a) (hunksOf base b)).2 : Int), 0) := by
    unfold merged; rw [if_neg (by simpa using hf)]
  with_reducible (refine c_exit ?_; refine on_e ?_; refine on_e ?_; refine ob_e ?_; refine on_n ?_; refine c_seq ?_)
  refine c_ops ?_
  refine r_op (o_mov (s_no ?_))
  dsimp only [putF, rd, Frame.get]
  refine r_op (o_mov (s_no ?_))
  dsimp only [putF, rd, Frame.get]
  refine r_op (o_call ?_)
  dsimp only [List.map, putF, rd, Frame.get]
  refine (hunks_rc hW base a k1 k2).use ?_
  refine s_no ?_
  refine r_op (o_build rfl (s_no ?_))
  dsimp only [putF, rd, Frame.get, setCells, over]
  refine r_op (o_box hS rfl fun v41 l41 S hS => s_no ?_)
  dsimp only [putF, rd, Frame.get]
  refine r_op (o_mov (s_no ?_))
  dsimp only [putF, rd, Frame.get]
  refine r_op (o_mov (s_no ?_))
  dsimp only [putF, rd, Frame.get]
  refine r_op (o_call ?_)
  dsimp only [List.map, putF, rd, Frame.get]
  refine (hunks_rc hW base b k1 k3).use ?_
  refine s_no ?_
  refine r_op (o_build rfl (s_no ?_))
  dsimp only [putF, rd, Frame.get, setCells, over]
  refine r_op (o_box hS rfl fun v46 l46 S hS => s_no ?_)
  dsimp only [putF, rd, Frame.get]
  refine r_op (o_mov (s_no ?_))
  dsimp only [putF, rd, Frame.get]
  refine r_op (o_mov (s_no ?_))
  dsimp only [putF, rd, Frame.get]
  refine r_nil (c_keep ?_)
  dsimp only [List.map]
  dsimp only [putF, rd, Frame.get]
  with_reducible (refine on_n ?_; refine c_seq ?_)
  refine c_ops ?_
  refine r_op (o_mov (s_no ?_))
  dsimp only [putF, rd, Frame.get]
  refine r_nil (c_keep ?_)
  dsimp only [List.map]
  dsimp only [putF, rd, Frame.get]
  with_reducible (refine on_n ?_; refine c_seq ?_; refine c_block ?_)
  have oA := (hunks_say base a).1
  have oB := (hunks_say base b).1
  obtain ⟨nA, qA⟩ := hunks_few base a
  obtain ⟨nB, qB⟩ := hunks_few base b
  have qA : ∀ h ∈ hunksOf base a, h.2.2.length ≤ 80 := fun h hh => by have := qA h hh; omega
  have qB : ∀ h ∈ hunksOf base b, h.2.2.length ≤ 80 := fun h hh => by have := qB h hh; omega
  generalize hunksOf base a = HA at *
  generalize hunksOf base b = HB at *
  have hcs : base.length * 1 ≤ (strs base).length := by rw [strs_len]; omega
  refine c_loop (fun k xs S => ∃ (K at_ v cl : Nat) (out : Lines) (A B : List Hunk) (X : HM), xs = [.sl l6 v 0 out.length, .int .i64 (cl : Int), .int .i64 (at_ : Int)] ∧ k = A.length + B.length ∧ A.length + B.length < K ∧
    mergeF base (HA.length + HB.length + 1) 0 HA HB = (out ++ (mergeF base K at_ A B).1, cl + (mergeF base K at_ A B).2) ∧ HOk base.length at_ A ∧ HOk base.length at_ B ∧ (∃ pA, pA ++ A = HA) ∧ (∃ pB, pB ++ B = HB) ∧ at_ ≤ base.length ∧
    out.length + 500000 * (A.length + B.length) ≤ 500000 * (HA.length + HB.length) ∧ cl + (A.length + B.length) ≤ HA.length + HB.length ∧ Has S (SdR l41 v41 A + SdR l46 v46 B + (pt l6 (.row v 1 (strs out)) + (X + mf)))) (HA.length + HB.length)
    ⟨HA.length + HB.length + 1, 0, v6, 0, [], HA, HB, HM.nil, rfl, rfl, by omega, (by rw [List.nil_append, Nat.zero_add]), oA, oB, ⟨[], rfl⟩, ⟨[], rfl⟩, by omega, by simp, by omega, hS.eq (by show _ = SdR l41 v41 HA + SdR l46 v46 HB + (pt l6 (.row v6 1 []) + (HM.nil + mf)); ac_rfl)⟩ ?_
  clear hS
  rintro k xs S hl' ⟨K, at_, v, cl, out, A, B, X, rfl, rfl, hK, hm, pA, pB, ⟨fA, sA⟩, ⟨fB, sB⟩, h1, h2, h3, hS⟩
  dsimp only [zipF, List.map, Frame.get]
  have lA := congrArg List.length sA
  have lB := congrArg List.length sB
  rw [List.length_append] at lA lB
  obtain ⟨K, rfl⟩ : ∃ K0, K = K0 + 1 := ⟨K - 1, by omega⟩
  with_reducible (refine c_seq ?_; refine c_seq ?_)
  refine c_opsD0 hS fun S hS => ?_
  refine d_zero ?_
  refine r_op (o_mov (s_no ?_))
  dsimp only [putF, rd, Frame.get]
  refine r_op (o_nilchk rfl (s_no ?_))
  dsimp only [putF, rd, Frame.get]
  refine r_op (o_faddr rfl (s_no ?_))
  dsimp only [putF, rd, Frame.get]
  simp only [Nat.zero_mul, Nat.mul_zero, Nat.mul_one, Nat.add_zero, Nat.zero_add, Nat.sub_zero, Nat.reduceAdd, Nat.reduceMul]
  refine r_op (o_load hS rfl rfl rfl rfl (s_no ?_))
  dsimp only [putF, rd, Frame.get]
  refine r_op (o_len rfl (s_no ?_))
  dsimp only [putF, rd, Frame.get]
  refine r_op (o_mov (s_no ?_))
  dsimp only [putF, rd, Frame.get]
  refine r_op (o_nilchk rfl (s_no ?_))
  dsimp only [putF, rd, Frame.get]
  refine r_op (o_faddr rfl (s_no ?_))
  dsimp only [putF, rd, Frame.get]
  simp only [Nat.zero_mul, Nat.mul_zero, Nat.mul_one, Nat.add_zero, Nat.zero_add, Nat.sub_zero, Nat.reduceAdd, Nat.reduceMul]
  refine r_op (o_load hS rfl rfl rfl rfl (s_no ?_))
  dsimp only [putF, rd, Frame.get]
  refine r_op (o_len rfl (s_no ?_))
  dsimp only [putF, rd, Frame.get]
  refine r_op (o_bin rfl (by first | trivial | (unfold inI64; omega)) (s_no ?_))
  dsimp only [putF, rd, Frame.get]
  refine r_op (o_bin rfl (by first | trivial | (unfold inI64; omega)) (s_no ?_))
  dsimp only [putF, rd, Frame.get]
  refine r_nil (c_keep ?_)
  dsimp only [List.map]
  dsimp only [putF, rd, Frame.get]
  with_reducible (refine on_n ?_)
  refine c_dec rfl (fun hlt => ?_) (fun hlt => ?_)
  rotate_left
  · obtain rfl : A = [] := List.length_eq_zero_iff.1 (by omega)
    obtain rfl : B = [] := List.length_eq_zero_iff.1 (by omega)
    rw [mergeF_end] at hm
    simp only [Nat.add_zero] at hm
    have e1 := sub_len base h1 (Nat.le_refl _)
    rw [List.take_of_length_le (Nat.le_refl _)] at e1
    with_reducible (refine c_exit ?_; refine on_e ?_; refine on_e ?_; refine ob_e ?_; refine on_n ?_; refine c_seq ?_)
    refine c_ops ?_
    refine r_op (o_mov (s_no ?_))
    dsimp only [putF, rd, Frame.get]
    refine r_op (o_mov (s_no ?_))
    dsimp only [putF, rd, Frame.get]
    refine r_op (o_mov (s_no ?_))
    dsimp only [putF, rd, Frame.get]
    refine r_op ?_
    refine o_sliceR rfl rfl ⟨_, rfl⟩ h1 (Nat.le_refl _) hcs ?_; rw [show at_ * (0 + 1) = at_ by omega, show (base.length - at_) * (0 + 1) = base.length - at_ by omega, strs_sub, List.take_of_length_le (Nat.le_refl _)]
    refine s_no ?_
    dsimp only [putF, rd, Frame.get]
    refine r_op ?_
    refine o_appendX hS rfl (SrcOf.strs _ _ e1) rfl (by rw [strs_len]; omega) (by omega) fun v1 S hS => ?_
    refine s_no ?_
    dsimp only [putF, rd, Frame.get]
    refine r_op (o_mov (s_no ?_))
    dsimp only [putF, rd, Frame.get]
    refine r_op (o_mov (s_no ?_))
    dsimp only [putF, rd, Frame.get]
    refine r_op (o_mov (s_no ?_))
    dsimp only [putF, rd, Frame.get]
    refine r_op (o_mov (s_no ?_))
    dsimp only [putF, rd, Frame.get]
    refine r_nil (c_keep ?_)
    dsimp only [List.map]
    dsimp only [putF, rd, Frame.get]
    with_reducible (refine on_n ?_; refine c_ret ?_)
    dsimp only
    unfold merge_Merge_r
    refine w_tmp (w_tmp (w_tmp (w_nil ?_)))
    dsimp only [retV, Frame.get]
    rw [em, hm]
    rw [← strs_app] at hS
    exact ⟨_, ⟨l6, v1, SdR l41 v41 [] + SdR l46 v46 [] + X, by rw [List.length_append, e1], rfl⟩, hS.eq (by ac_rfl)⟩
  have hne : ¬ (A = [] ∧ B = []) := fun ⟨q1, q2⟩ => by subst q1 q2; simp at hlt
  have a80 : ∀ h ∈ A, h.1 ≤ 80 := fun h hh => by have := HOk.all pA h hh; omega
  have b80 : ∀ h ∈ B, h.1 ≤ 80 := fun h hh => by have := HOk.all pB h hh; omega
  with_reducible (refine c_skip ?_; refine on_n ?_; refine c_block ?_; refine c_seq ?_)
  refine c_ops ?_
  refine r_op (o_mov (s_no ?_))
  dsimp only [putF, rd, Frame.get]
  refine r_op (o_mov (s_no ?_))
  dsimp only [putF, rd, Frame.get]
  refine r_op (o_call ?_)
  dsimp only [List.map, putF, rd, Frame.get]
  refine (part_walk A B (lp := l41) (vp := v41) (lq := l46) (vq := v46) a80 b80 (by omega) (by omega)).use hS fun r m' S h hS => ?_; obtain ⟨c, px, vx, py, vy, X1, hc, c1, c2, rfl, rfl⟩ := h
  refine s_no ?_
  refine r_op (o_mov (s_no ?_))
  dsimp only [putF, rd, Frame.get]
  refine r_op (o_extract rfl rfl (s_no ?_))
  dsimp only [putF, rd, Frame.get]
  refine r_op (o_extract rfl rfl (s_no ?_))
  dsimp only [putF, rd, Frame.get]
  refine r_op (o_extract rfl rfl (s_no ?_))
  dsimp only [putF, rd, Frame.get]
  refine r_op (o_extract rfl rfl (s_no ?_))
  dsimp only [putF, rd, Frame.get]
  refine r_op (o_mov (s_no ?_))
  dsimp only [putF, rd, Frame.get]
  refine r_op (o_mov (s_no ?_))
  dsimp only [putF, rd, Frame.get]
  refine r_op (o_mov (s_no ?_))
  dsimp only [putF, rd, Frame.get]
  refine r_op (o_mov (s_no ?_))
  dsimp only [putF, rd, Frame.get]
  refine r_nil (c_keep ?_)
  dsimp only [List.map]
  dsimp only [putF, rd, Frame.get]
  with_reducible (refine on_n ?_; refine c_seq ?_)
  obtain ⟨q1, q2, q3, q4, q5, q6, q7, q8⟩ := part_ok hc hne k1 pA pB
  have hst := mergeF_step (base := base) (k := K) (at_ := at_) hc hne
  generalize firstLo A B = lo at *
  obtain ⟨x, y, A', B', hi⟩ := c
  simp only at *
  have n1 := congrArg List.length c1
  have n2 := congrArg List.length c2
  rw [List.length_append] at n1 n2
  have e1 := sub_len base q1 (show lo ≤ base.length by omega)
  refine c_ops ?_
  refine r_op (o_mov (s_no ?_))
  dsimp only [putF, rd, Frame.get]
  refine r_op (o_mov (s_no ?_))
  dsimp only [putF, rd, Frame.get]
  refine r_op (o_mov (s_no ?_))
  dsimp only [putF, rd, Frame.get]
  refine r_op (o_mov (s_no ?_))
  dsimp only [putF, rd, Frame.get]
  refine r_op ?_
  refine o_sliceR rfl ⟨_, rfl⟩ ⟨_, rfl⟩ q1 (by omega) hcs ?_; rw [show at_ * (0 + 1) = at_ by omega, show (lo - at_) * (0 + 1) = lo - at_ by omega, strs_sub]
  refine s_no ?_
  dsimp only [putF, rd, Frame.get]
  refine r_op ?_
  refine o_appendX hS rfl (SrcOf.strs _ _ e1) rfl (by rw [strs_len]; omega) (by omega) fun v1 S hS => ?_
  refine s_no ?_
  dsimp only [putF, rd, Frame.get]
  refine r_op (o_mov (s_no ?_))
  dsimp only [putF, rd, Frame.get]
  refine r_nil (c_keep ?_)
  dsimp only [List.map]
  dsimp only [putF, rd, Frame.get]
  with_reducible (refine on_n ?_; refine c_seq ?_)
  refine c_ops ?_
  refine r_op (o_mov (s_no ?_))
  dsimp only [putF, rd, Frame.get]
  refine r_op (o_mov (s_no ?_))
  dsimp only [putF, rd, Frame.get]
  refine r_nil (c_keep ?_)
  dsimp only [List.map]
  dsimp only [putF, rd, Frame.get]
  with_reducible (refine on_n ?_; refine c_seq ?_)
  rw [← strs_app] at hS
  have xq : ∀ h ∈ x, h.2.2.length ≤ 80 := fun h hh => qA h (by rw [← sA, ← c1]; exact List.mem_append_right _ (List.mem_append_left _ hh))
  have yq : ∀ h ∈ y, h.2.2.length ≤ 80 := fun h hh => qB h (by rw [← sB, ← c2]; exact List.mem_append_right _ (List.mem_append_left _ hh))
  have sx : SlR 3 (.sl px vx 0 x.length) (encHs x) x.length (pt px (.row vx 3 (encHs x))) := SlR.whole (encHs_len _)
  have sy : SlR 3 (.sl py vy 0 y.length) (encHs y) y.length (pt py (.row vy 3 (encHs y))) := SlR.whole (encHs_len _)
  refine c_ops ?_
  refine r_op (o_mov (s_no ?_))
  dsimp only [putF, rd, Frame.get]
  refine r_op (o_mov (s_no ?_))
  dsimp only [putF, rd, Frame.get]
  refine r_op (o_mov (s_no ?_))
  dsimp only [putF, rd, Frame.get]
  refine r_op (o_mov (s_no ?_))
  dsimp only [putF, rd, Frame.get]
  refine r_op (o_call ?_)
  dsimp only [List.map, putF, rd, Frame.get]
  refine (made_walk base sx k1 q2 q3 (by omega) q4 xq).use hS fun r m' S h hS => ?_; obtain ⟨w1, pu, vu, X2, rfl, rfl⟩ := h
  refine s_no ?_
  refine r_op (o_mov (s_no ?_))
  dsimp only [putF, rd, Frame.get]
  refine r_op (o_mov (s_no ?_))
  dsimp only [putF, rd, Frame.get]
  refine r_op (o_mov (s_no ?_))
  dsimp only [putF, rd, Frame.get]
  refine r_op (o_mov (s_no ?_))
  dsimp only [putF, rd, Frame.get]
  refine r_op (o_call ?_)
  dsimp only [List.map, putF, rd, Frame.get]
  refine (made_walk base sy k1 q2 q3 (by omega) q5 yq).use hS fun r m' S h hS => ?_; obtain ⟨w2, pw, vw, X3, rfl, rfl⟩ := h
  refine s_no ?_
  refine r_op (o_mov (s_no ?_))
  dsimp only [putF, rd, Frame.get]
  refine r_op (o_mov (s_no ?_))
  dsimp only [putF, rd, Frame.get]
  refine r_nil (c_keep ?_)
  dsimp only [List.map]
  dsimp only [putF, rd, Frame.get]
  with_reducible (refine on_n ?_; refine c_block ?_; refine c_seq ?_)
  have hS := hS.eq (m' := SdR l41 v41 A' + SdR l46 v46 B' + (pt l6 (.row v1 1 (strs (out ++ (base.take lo).drop at_))) + ((pt pu (.row vu 1 (strs (mkL base lo hi x))) + pt pw (.row vw 1 (strs (mkL base lo hi y)))) + ((X + X1 + X2 + X3 + pt px (.row vx 3 (encHs x)) + pt py (.row vy 3 (encHs y))) + mf)))) (by ac_rfl)
  generalize hX : X + X1 + X2 + X3 + pt px (.row vx 3 (encHs x)) + pt py (.row vy 3 (encHs y)) = X4 at hS
  have lD : (out ++ (base.take lo).drop at_).length = out.length + (lo - at_) := by rw [List.length_append, e1]
  have hpl := partF_len (base := base) (lo := lo) (hi := hi) w1 w2
  have hPF : partF base lo hi x y = if y = [] ∨ mkL base lo hi x = mkL base lo hi y then mkL base lo hi x else if x = [] then mkL base lo hi y else clashed (mkL base lo hi x) (mkL base lo hi y) := rfl
  have hPC : partC base lo hi x y = if y = [] ∨ mkL base lo hi x = mkL base lo hi y then 0 else if x = [] then 0 else 1 := rfl
  have hC1 : partC base lo hi x y ≤ 1 := by { rw [hPC]; split; omega; split <;> omega }
  rw [← lD]
  generalize hD : out ++ (base.take lo).drop at_ = D at *
  have hfin : mergeF base (HA.length + HB.length + 1) 0 HA HB = ((D ++ partF base lo hi x y) ++ (mergeF base K hi A' B').1, (cl + partC base lo hi x y) + (mergeF base K hi A' B').2) := by
    rw [hm, hst, ← hD]
    simp only [List.append_assoc, Nat.add_assoc]
  clear hm hst
  generalize hu : mkL base lo hi x = u at *
  generalize hw : mkL base lo hi y = w at *
  generalize hPF0 : partF base lo hi x y = PF at *
  generalize hPC0 : partC base lo hi x y = PC at *
  have fin : ∀ (v : Nat) (D' : Lines) (cl' : Nat) (S : Store), D' = D ++ PF → cl' = cl + PC → Has S (SdR l41 v41 A' + SdR l46 v46 B' + (pt l6 (.row v 1 (strs D')) + ((pt pu (.row vu 1 (strs u)) + pt pw (.row vw 1 (strs w))) + (X4 + mf)))) →
      ∃ k', k' < A.length + B.length ∧ ∃ (K at_ v' cl'' : Nat) (out : Lines) (A B : List Hunk) (X : HM), [AVal.sl l6 v 0 D'.length, .int .i64 (cl' : Int), .int .i64 (hi : Int)] = [.sl l6 v' 0 out.length, .int .i64 (cl'' : Int), .int .i64 (at_ : Int)] ∧ k' = A.length + B.length ∧ A.length + B.length < K ∧
    mergeF base (HA.length + HB.length + 1) 0 HA HB = (out ++ (mergeF base K at_ A B).1, cl'' + (mergeF base K at_ A B).2) ∧ HOk base.length at_ A ∧ HOk base.length at_ B ∧ (∃ pA, pA ++ A = HA) ∧ (∃ pB, pB ++ B = HB) ∧ at_ ≤ base.length ∧
    out.length + 500000 * (A.length + B.length) ≤ 500000 * (HA.length + HB.length) ∧ cl'' + (A.length + B.length) ≤ HA.length + HB.length ∧ Has S (SdR l41 v41 A + SdR l46 v46 B + (pt l6 (.row v' 1 (strs out)) + (X + mf))) := by
    rintro v D' cl' S rfl rfl hS
    refine ⟨A'.length + B'.length, by omega, K, hi, v, cl + PC, D ++ PF, A', B', (pt pu (.row vu 1 (strs u)) + pt pw (.row vw 1 (strs w))) + X4, rfl, rfl, by omega, hfin, q6, q7, ⟨fA ++ x, by rw [List.append_assoc, c1, sA]⟩, ⟨fB ++ y, by rw [List.append_assoc, c2, sB]⟩, q3, ?_, by omega, hS.eq (by ac_rfl)⟩
    rw [List.length_append]
    omega
  clear hfin hPF0 hPC0
  refine c_cutN (fun F S => F = frN (Rl base) (.sl l6 v1 0 D.length) (.int .i64 (cl : Int)) (.ptr l41 v41 0) (.ptr l46 v46 0) (.int .i64 (hi : Int)) (.sl px vx 0 x.length) (.sl pu vu 0 u.length) (.sl pw vw 0 w.length) (decide (y = [] ∨ u = w)) ∧ Has S (SdR l41 v41 A' + SdR l46 v46 B' + (pt l6 (.row v1 1 (strs D)) + ((pt pu (.row vu 1 (strs u)) + pt pw (.row vw 1 (strs w))) + (X4 + mf))))) ?_ (fun N hN => ?_)
  rotate_left
  · by_cases hy : y.length = 0
    · refine c_ops ?_
      refine r_op (o_mov (s_no ?_))
      dsimp only [putF, rd, Frame.get]
      refine r_op (o_len rfl (s_no ?_))
      dsimp only [putF, rd, Frame.get]
      refine r_op (o_bin rfl (by first | trivial | (unfold inI64; omega)) (s_no ?_))
      dsimp only [putF, rd, Frame.get]
      refine r_op ?_
      refine o_mov (s_dec (fun hg => ?_) (fun hg => by exfalso; omega))
      dsimp only [putF, rd, Frame.get]
      ((with_reducible refine r_sf ?_ ?_); (· rfl))
      dsimp only [putF, rd, Frame.get]
      ((with_reducible refine r_sf ?_ ?_); (· rfl))
      dsimp only [putF, rd, Frame.get]
      ((with_reducible refine r_sf ?_ ?_); (· rfl))
      dsimp only [putF, rd, Frame.get]
      refine r_op (o_pickT rfl (s_no ?_))
      dsimp only [putF, rd, Frame.get]
      refine r_op (o_mov (s_no ?_))
      dsimp only [putF, rd, Frame.get]
      refine r_nil (c_keep ?_)
      dsimp only [List.map]
      dsimp only [putF, rd, Frame.get]
      refine on_n (hN _ _ ⟨?_, hS⟩)
      exact congrArg (frN (Rl base) (.sl l6 v1 0 D.length) (.int .i64 (cl : Int)) (.ptr l41 v41 0) (.ptr l46 v46 0) (.int .i64 (hi : Int)) (.sl px vx 0 x.length) (.sl pu vu 0 u.length) (.sl pw vw 0 w.length)) (decide_eq_true (show y = [] ∨ u = w from .inl (List.length_eq_zero_iff.1 hy))).symm
    · refine c_ops ?_
      refine r_op (o_mov (s_no ?_))
      dsimp only [putF, rd, Frame.get]
      refine r_op (o_len rfl (s_no ?_))
      dsimp only [putF, rd, Frame.get]
      refine r_op (o_bin rfl (by first | trivial | (unfold inI64; omega)) (s_no ?_))
      dsimp only [putF, rd, Frame.get]
      refine r_op ?_
      refine o_mov (s_dec (fun hg => by exfalso; omega) (fun hg => ?_))
      dsimp only [putF, rd, Frame.get]
      refine r_ff rfl (o_mov (s_no ?_))
      dsimp only [putF, rd, Frame.get]
      refine r_ff rfl (o_mov (s_no ?_))
      dsimp only [putF, rd, Frame.get]
      refine r_ff rfl (o_call ?_)
      dsimp only [List.map, putF, rd, Frame.get]
      refine (equal_walk u w (by omega) (p := pu) (q := pw) (a := vu) (b := vw)).use hS fun r m' S h hS => ?_; obtain ⟨rfl, rfl⟩ := h
      refine s_no ?_
      refine r_op (o_pickF rfl (s_no ?_))
      dsimp only [putF, rd, Frame.get]
      refine r_op (o_mov (s_no ?_))
      dsimp only [putF, rd, Frame.get]
      refine r_nil (c_keep ?_)
      dsimp only [List.map]
      dsimp only [putF, rd, Frame.get]
      refine on_n (hN _ _ ⟨?_, hS⟩)
      exact congrArg (frN (Rl base) (.sl l6 v1 0 D.length) (.int .i64 (cl : Int)) (.ptr l41 v41 0) (.ptr l46 v46 0) (.int .i64 (hi : Int)) (.sl px vx 0 x.length) (.sl pu vu 0 u.length) (.sl pw vw 0 w.length)) (decide_eq_decide.2 ⟨fun q => .inr q, fun q => q.resolve_left fun e => hy (by rw [e]; rfl)⟩)
  clear hS
  rintro _ S ⟨rfl, hS⟩
  have su : ∀ m : HM, ∀ f : Ob → HM, At m pu (.row vu 1 (strs u)) f → SrcOf m 1 (.sl pu vu 0 u.length) u.length (strs u) := fun m f i => ⟨rfl, strs u, f, _, i, rfl, by rw [strs_len]; omega, by unfold subL; rw [List.drop_zero, List.take_of_length_le (by rw [strs_len]; omega)]⟩
  have sw : ∀ m : HM, ∀ f : Ob → HM, At m pw (.row vw 1 (strs w)) f → SrcOf m 1 (.sl pw vw 0 w.length) w.length (strs w) := fun m f i => ⟨rfl, strs w, f, _, i, rfl, by rw [strs_len]; omega, by unfold subL; rw [List.drop_zero, List.take_of_length_le (by rw [strs_len]; omega)]⟩
  have dl : D.length ≤ 500000 * (HA.length + HB.length) := by omega
  refine c_dec rfl (fun h4 => ?_) (fun h4 => ?_)
  · rw [if_pos h4] at hPF hPC
    refine c_ops ?_
    refine r_op (o_mov (s_no ?_))
    dsimp only [putF, rd, Frame.get]
    refine r_op (o_mov (s_no ?_))
    dsimp only [putF, rd, Frame.get]
    refine r_op ?_
    refine o_appendX hS rfl (su _ _ inferInstance) rfl (by rw [strs_len]; omega) (by omega) fun v2 S hS => ?_
    refine s_no ?_
    dsimp only [putF, rd, Frame.get]
    refine r_op (o_mov (s_no ?_))
    dsimp only [putF, rd, Frame.get]
    refine r_nil (c_keep ?_)
    dsimp only [List.map]
    dsimp only [putF, rd, Frame.get]
    with_reducible (refine ob_n ?_; refine ob_n ?_; refine on_n ?_)
    have := fin v2 (D ++ u) cl S (by rw [hPF]) (by rw [hPC]; rfl) (by rw [strs_app]; exact hS)
    rw [List.length_append] at this
    exact this
  rw [if_neg h4] at hPF hPC
  with_reducible (refine c_seq ?_)
  refine c_ops ?_
  refine r_op (o_mov (s_no ?_))
  dsimp only [putF, rd, Frame.get]
  refine r_op (o_len rfl (s_no ?_))
  dsimp only [putF, rd, Frame.get]
  refine r_op (o_bin rfl (by first | trivial | (unfold inI64; omega)) (s_no ?_))
  dsimp only [putF, rd, Frame.get]
  refine r_op (o_mov (s_no ?_))
  dsimp only [putF, rd, Frame.get]
  refine r_nil (c_keep ?_)
  dsimp only [List.map]
  dsimp only [putF, rd, Frame.get]
  with_reducible (refine on_n ?_)
  refine c_dec rfl (fun h5 => ?_) (fun h5 => ?_)
  · have h5 : x = [] := List.length_eq_zero_iff.1 (by omega)
    rw [if_pos h5] at hPF hPC
    refine c_ops ?_
    refine r_op (o_mov (s_no ?_))
    dsimp only [putF, rd, Frame.get]
    refine r_op (o_mov (s_no ?_))
    dsimp only [putF, rd, Frame.get]
    refine r_op ?_
    refine o_appendX hS rfl (sw _ _ inferInstance) rfl (by rw [strs_len]; omega) (by omega) fun v2 S hS => ?_
    refine s_no ?_
    dsimp only [putF, rd, Frame.get]
    refine r_op (o_mov (s_no ?_))
    dsimp only [putF, rd, Frame.get]
    refine r_nil (c_keep ?_)
    dsimp only [List.map]
    dsimp only [putF, rd, Frame.get]
    with_reducible (refine ob_n ?_; refine ob_n ?_; refine on_n ?_)
    have := fin v2 (D ++ w) cl S (by rw [hPF]) (by rw [hPC]; rfl) (by rw [strs_app]; exact hS)
    rw [List.length_append] at this
    exact this
  rw [if_neg fun e => h5 (by rw [e]; rfl)] at hPF hPC
  have em1 : ([.str [60, 60, 60, 60, 60, 60, 60]] : List AVal) = strs [Go.Fu.mark 60] := rfl
  have em2 : ([.str [61, 61, 61, 61, 61, 61, 61]] : List AVal) = strs [Go.Fu.mark 61] := rfl
  have em3 : ([.str [62, 62, 62, 62, 62, 62, 62]] : List AVal) = strs [Go.Fu.mark 62] := rfl
  have l1 : ∀ c, ([Go.Fu.mark c] : Lines).length = 1 := fun c => rfl
  with_reducible (refine c_seq ?_)
  refine c_ops ?_
  refine r_op (o_mov (s_no ?_))
  dsimp only [putF, rd, Frame.get]
  refine r_op (o_bin rfl (by first | trivial | (unfold inI64; omega)) (s_no ?_))
  dsimp only [putF, rd, Frame.get]
  refine r_op (o_mov (s_no ?_))
  dsimp only [putF, rd, Frame.get]
  refine r_nil (c_keep ?_)
  dsimp only [List.map]
  dsimp only [putF, rd, Frame.get]
  with_reducible (refine on_n ?_; refine c_seq ?_)
  refine c_ops ?_
  refine r_op (o_mov (s_no ?_))
  dsimp only [putF, rd, Frame.get]
  refine r_op (o_bsliceR rfl (s_no ?_))
  dsimp only [putF, rd, Frame.get, setCells, over]
  refine r_op ?_
  refine o_appendX hS rfl (SrcOf.one rfl) rfl (by rw [strs_len]; omega) (by omega) fun v2 S hS => ?_; rw [em1, ← strs_app] at hS
  refine s_no ?_
  dsimp only [putF, rd, Frame.get]
  refine r_op (o_mov (s_no ?_))
  dsimp only [putF, rd, Frame.get]
  refine r_op ?_
  refine o_appendX hS rfl (su _ _ inferInstance) rfl (by rw [strs_len, List.length_append, l1]; omega) (by omega) fun v3 S hS => ?_; rw [← strs_app] at hS
  refine s_no ?_
  dsimp only [putF, rd, Frame.get]
  refine r_op (o_mov (s_no ?_))
  dsimp only [putF, rd, Frame.get]
  refine r_nil (c_keep ?_)
  dsimp only [List.map]
  dsimp only [putF, rd, Frame.get]
  with_reducible (refine on_n ?_; refine c_seq ?_)
  refine c_ops ?_
  refine r_op (o_mov (s_no ?_))
  dsimp only [putF, rd, Frame.get]
  refine r_op (o_bsliceR rfl (s_no ?_))
  dsimp only [putF, rd, Frame.get, setCells, over]
  refine r_op ?_
  refine o_appendX hS rfl (SrcOf.one rfl) rfl (by simp only [strs_len, List.length_append, l1]; omega) (by omega) fun v4 S hS => ?_; rw [em2, ← strs_app] at hS
  refine s_no ?_
  dsimp only [putF, rd, Frame.get]
  refine r_op (o_mov (s_no ?_))
  dsimp only [putF, rd, Frame.get]
  refine r_op ?_
  refine o_appendX hS rfl (sw _ _ inferInstance) rfl (by simp only [strs_len, List.length_append, l1]; omega) (by omega) fun v5 S hS => ?_; rw [← strs_app] at hS
  refine s_no ?_
  dsimp only [putF, rd, Frame.get]
  refine r_op (o_mov (s_no ?_))
  dsimp only [putF, rd, Frame.get]
  refine r_nil (c_keep ?_)
  dsimp only [List.map]
  dsimp only [putF, rd, Frame.get]
  with_reducible (refine on_n ?_)
  refine c_ops ?_
  refine r_op (o_mov (s_no ?_))
  dsimp only [putF, rd, Frame.get]
  refine r_op (o_bsliceR rfl (s_no ?_))
  dsimp only [putF, rd, Frame.get, setCells, over]
  refine r_op ?_
  refine o_appendX hS rfl (SrcOf.one rfl) rfl (by simp only [strs_len, List.length_append, l1]; omega) (by omega) fun v6 S hS => ?_; rw [em3, ← strs_app] at hS
  refine s_no ?_
  dsimp only [putF, rd, Frame.get]
  refine r_op (o_mov (s_no ?_))
  dsimp only [putF, rd, Frame.get]
  refine r_nil (c_keep ?_)
  dsimp only [List.map]
  dsimp only [putF, rd, Frame.get]
  with_reducible (refine ob_n ?_; refine ob_n ?_; refine on_n ?_)
  have := fin v6 _ (cl + 1) S (by rw [hPF]; simp only [clashed, List.append_assoc]) (by rw [hPC]) hS
  simp only [List.length_append, l1] at this
  exact this
theorem merge_con (hW : Con Try.prog f_diff_Way diff_Way_ct) : Con Try.prog f_merge_Merge merge_Merge_ct := by
  refine ⟨merge_Merge_ok.able rfl, fun (x : Lines × Lines × Lines) hp => ?_⟩
  obtain ⟨base, a, b⟩ := x
  show ACalls Try.prog f_merge_Merge [encA (.sl .str) base, encA (.sl .str) a, encA (.sl .str) b] [] (resR [.own .str, .val tI, .val tI] (merged base a b))
  rw [strs_eq, strs_eq, strs_eq]
  refine HC.plainly (Merge_walk hW base a b) ?_
  rintro r m' S' ⟨p, v, X, rfl, rfl⟩ hS
  refine ⟨.tup [.sl 0 v 0 (merged base a b).1.length, .int .i64 (merged base a b).2.1, .int .i64 (merged base a b).2.2], _, _, .tup (.cons .sl (.refl _)), has_one hS, [.sl 0 v 0 (merged base a b).1.length, .int .i64 (merged base a b).2.1, .int .i64 (merged base a b).2.2], ?_, rfl⟩
  show resA [.own .str, .val tI, .val tI] (merged base a b) 0 _ _
  exact .inl ⟨v, [.int .i64 (merged base a b).2.1, .int .i64 (merged base a b).2.2], [], rfl, by rw [← strs_flat]; rfl, [.int .i64 (merged base a b).2.2], rfl, ⟨[], rfl, rfl, rfl⟩⟩
end Go.Proofs.Ytdbgppfoenoijaa.H
