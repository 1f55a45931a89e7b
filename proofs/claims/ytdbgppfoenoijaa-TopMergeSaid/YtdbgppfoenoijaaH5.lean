/- Lists of lines held against each other; lines that are too long, walked. Conditions: none. -/
import Derived.Test.YtdbgppfoenoijaaH4
set_option linter.unusedVariables false
set_option linter.unusedSimpArgs false
set_option maxRecDepth 100000
namespace Go.Proofs.Ytdbgppfoenoijaa.H
open Go.Vc Go.Fu
theorem strs_at {l : Lines} {j : Nat} {s : Bytes} (h : l[j]? = some s) : takeN 1 ((strs l).drop j) = some [.str s] := by
  obtain ⟨h1, h2⟩ := List.getElem?_eq_some_iff.1 h
  rw [takeN_of_le _ _ (by rw [List.length_drop, strs_len]; omega), List.drop_eq_getElem_cons (by rw [strs_len]; exact h1)]
  simp [strs, h2]
theorem strs_at1 {l : Lines} {j : Nat} {s : Bytes} (h : l[j]? = some s) : takeN 1 ((strs l).drop (j * 1)) = some [.str s] := by rw [Nat.mul_one]; exact strs_at h

theorem equal_walk (u v : Lines) (hu : u.length ≤ 140737488351232) {p q a b : Nat} : HC Try.prog f_slices_Equal___string_string_ [.sl p a 0 u.length, .sl q b 0 v.length] (pt p (.row a 1 (strs u)) + pt q (.row b 1 (strs v))) fun r m' =>
    r = .bool (decide (u = v)) ∧ m' = pt p (.row a 1 (strs u)) + pt q (.row b 1 (strs v)) := by
  intro S mf hS
  refine slices_Equal___string_string__ok.out rfl ?_ (by simp [slices_Equal___string_string__fi])
  unfold vcFun slices_Equal___string_string__fi
  dsimp only
  unfold slices_Equal___string_string__c
  dsimp only [argF]
  with_reducible (refine c_seq ?_)
  refine c_ops ?_
  refine r_op (o_mov (s_no ?_))
  dsimp only [putF, rd, Frame.get]
  refine r_nil (c_keep ?_)
  dsimp only [List.map]
  dsimp only [putF, rd, Frame.get]
  with_reducible (refine on_n ?_; refine c_seq ?_; refine c_seq ?_)
  refine c_ops ?_
  refine r_op (o_mov (s_no ?_))
  dsimp only [putF, rd, Frame.get]
  refine r_op (o_len rfl (s_no ?_))
  dsimp only [putF, rd, Frame.get]
  refine r_op (o_mov (s_no ?_))
  dsimp only [putF, rd, Frame.get]
  refine r_op (o_len rfl (s_no ?_))
  dsimp only [putF, rd, Frame.get]
  refine r_op (o_bin rfl (by first | trivial | (unfold inI64; omega)) (s_no ?_))
  dsimp only [putF, rd, Frame.get]
  refine r_nil (c_keep ?_)
  dsimp only [List.map]
  dsimp only [putF, rd, Frame.get]
  with_reducible (refine on_n ?_)
  refine c_ndec rfl (fun hc => ?_) (fun hc => ?_)
  · with_reducible (refine c_seq ?_)
    refine c_ops ?_
    refine r_op (o_mov (s_no ?_))
    dsimp only [putF, rd, Frame.get]
    refine r_nil (c_keep ?_)
    dsimp only [List.map]
    dsimp only [putF, rd, Frame.get]
    with_reducible (refine on_n ?_; refine c_ret ?_; refine on_r ?_)
    dsimp only
    unfold slices_Equal___string_string__r
    refine w_tmp (w_nil ?_)
    dsimp only [retV, Frame.get]
    refine ⟨_, ⟨?_, rfl⟩, hS⟩
    rw [decide_eq_false (show ¬ u = v from fun e => hc (by rw [e]))]
  have hc : u.length = v.length := by omega
  with_reducible (refine c_skip ?_; refine on_n ?_; refine c_seq ?_; refine c_seq ?_)
  refine c_ops ?_
  refine r_op (o_mov (s_no ?_))
  dsimp only [putF, rd, Frame.get]
  refine r_op (o_len rfl (s_no ?_))
  dsimp only [putF, rd, Frame.get]
  refine r_op (o_mov (s_no ?_))
  dsimp only [putF, rd, Frame.get]
  refine r_nil (c_keep ?_)
  dsimp only [List.map]
  dsimp only [putF, rd, Frame.get]
  with_reducible (refine on_n ?_; refine c_block ?_)
  refine c_loop (fun k xs S => ∃ j : Nat, xs = [.int .i64 (j : Int)] ∧ j ≤ u.length ∧ k = u.length - j ∧ u.take j = v.take j ∧ Has S (pt p (.row a 1 (strs u)) + pt q (.row b 1 (strs v)) + mf)) u.length ⟨0, rfl, Nat.zero_le _, rfl, rfl, hS⟩ ?_
  clear hS
  rintro k xs S hl' ⟨j, rfl, hj, rfl, he, hS⟩
  dsimp only [zipF, List.map, Frame.get]
  with_reducible (refine c_seq ?_)
  refine c_ops ?_
  refine r_op (o_bin rfl (by first | trivial | (unfold inI64; omega)) (s_no ?_))
  dsimp only [putF, rd, Frame.get]
  refine r_nil (c_keep ?_)
  dsimp only [List.map]
  dsimp only [putF, rd, Frame.get]
  with_reducible (refine on_n ?_; refine c_seq ?_)
  refine c_dec rfl (fun hlt => ?_) (fun hlt => ?_)
  · have h1 : u[j]? = some u[j] := List.getElem?_eq_getElem (by omega)
    have h2 : v[j]? = some v[j] := List.getElem?_eq_getElem (by omega)
    have ht1 := strs_at h1
    have ht2 := strs_at h2
    with_reducible (refine c_skip ?_; refine on_n ?_; refine c_seq ?_; refine c_block ?_; refine c_seq ?_)
    refine c_ops ?_
    refine r_op (o_mov (s_no ?_))
    dsimp only [putF, rd, Frame.get]
    refine r_op (o_mov (s_no ?_))
    dsimp only [putF, rd, Frame.get]
    refine r_nil (c_keep ?_)
    dsimp only [List.map]
    dsimp only [putF, rd, Frame.get]
    with_reducible (refine on_n ?_; refine c_seq ?_)
    refine c_opsD0 hS fun S hS => ?_
    refine d_zero ?_
    refine r_op (o_mov (s_no ?_))
    dsimp only [putF, rd, Frame.get]
    refine r_op (o_mov (s_no ?_))
    dsimp only [putF, rd, Frame.get]
    refine r_op (o_iaddr hS rfl rfl rfl (by omega) (s_no ?_))
    dsimp only [putF, rd, Frame.get]
    simp only [Nat.zero_mul, Nat.mul_zero, Nat.mul_one, Nat.add_zero, Nat.zero_add, Nat.sub_zero, Nat.reduceAdd, Nat.reduceMul]
    refine r_op (o_load hS rfl rfl (by assumption) rfl (s_no ?_))
    dsimp only [putF, rd, Frame.get]
    refine r_op (o_mov (s_no ?_))
    dsimp only [putF, rd, Frame.get]
    refine r_op (o_mov (s_no ?_))
    dsimp only [putF, rd, Frame.get]
    refine r_op (o_iaddr hS rfl rfl rfl (by omega) (s_no ?_))
    dsimp only [putF, rd, Frame.get]
    simp only [Nat.zero_mul, Nat.mul_zero, Nat.mul_one, Nat.add_zero, Nat.zero_add, Nat.sub_zero, Nat.reduceAdd, Nat.reduceMul]
    refine r_op (o_load hS rfl rfl (by assumption) rfl (s_no ?_))
    dsimp only [putF, rd, Frame.get]
    refine r_op (o_bin rfl (by first | trivial | (unfold inI64; omega)) (s_no ?_))
    dsimp only [putF, rd, Frame.get]
    refine r_nil (c_keep ?_)
    dsimp only [List.map]
    dsimp only [putF, rd, Frame.get]
    with_reducible (refine on_n ?_)
    refine c_ndec rfl (fun hd => ?_) (fun hd => ?_)
    · with_reducible (refine c_seq ?_)
      refine c_ops ?_
      refine r_op (o_mov (s_no ?_))
      dsimp only [putF, rd, Frame.get]
      refine r_nil (c_keep ?_)
      dsimp only [List.map]
      dsimp only [putF, rd, Frame.get]
      with_reducible (refine on_n ?_; refine c_ret ?_; refine ob_r ?_; refine on_r ?_; refine on_r ?_; refine ob_r ?_; refine on_r ?_)
      dsimp only
      unfold slices_Equal___string_string__r
      refine w_tmp (w_nil ?_)
      dsimp only [retV, Frame.get]
      refine ⟨_, ⟨?_, rfl⟩, hS⟩
      rw [decide_eq_false (show ¬ u = v from fun e => hd (by subst e; rfl))]
    · with_reducible (refine c_skip ?_; refine ob_n ?_; refine on_n ?_)
      refine c_ops ?_
      refine r_op (o_bin rfl (by first | trivial | (unfold inI64; omega)) (s_no ?_))
      dsimp only [putF, rd, Frame.get]
      refine r_op (o_mov (s_no ?_))
      dsimp only [putF, rd, Frame.get]
      refine r_nil (c_keep ?_)
      dsimp only [List.map]
      dsimp only [putF, rd, Frame.get]
      with_reducible (refine on_n ?_)
      refine ⟨u.length - (j + 1), by omega, j + 1, rfl, by omega, rfl, ?_, hS⟩
      rw [List.take_add_one, List.take_add_one, he, h1, h2, hd]
  · obtain rfl : j = u.length := by omega
    rw [List.take_of_length_le (Nat.le_refl _), hc, List.take_of_length_le (Nat.le_refl _)] at he
    with_reducible (refine c_exit ?_; refine on_e ?_; refine on_e ?_; refine ob_e ?_; refine on_n ?_; refine c_seq ?_)
    refine c_ops ?_
    refine r_op (o_mov (s_no ?_))
    dsimp only [putF, rd, Frame.get]
    refine r_nil (c_keep ?_)
    dsimp only [List.map]
    dsimp only [putF, rd, Frame.get]
    with_reducible (refine on_n ?_; refine c_ret ?_)
    dsimp only
    unfold slices_Equal___string_string__r
    refine w_tmp (w_nil ?_)
    dsimp only [retV, Frame.get]
    refine ⟨_, ⟨?_, rfl⟩, hS⟩
    rw [decide_eq_true he]

theorem long_rc (s : Bytes) : RC Try.prog f_merge_Merge_1 [.str s] (.bool (decide (600 < s.length))) := by
  refine RC.val ?_
  intro S mf hS
  refine merge_Merge_1_ok.out rfl ?_ (by simp [merge_Merge_1_fi])
  unfold vcFun merge_Merge_1_fi
  dsimp only
  unfold merge_Merge_1_c
  dsimp only [argF]
  with_reducible (refine c_seq ?_)
  refine c_ops ?_
  refine r_op (o_mov (s_no ?_))
  dsimp only [putF, rd, Frame.get]
  refine r_nil (c_keep ?_)
  dsimp only [List.map]
  dsimp only [putF, rd, Frame.get]
  with_reducible (refine on_n ?_; refine c_seq ?_)
  refine c_ops ?_
  refine r_op (o_mov (s_no ?_))
  dsimp only [putF, rd, Frame.get]
  refine r_op (o_len rfl (s_no ?_))
  dsimp only [putF, rd, Frame.get]
  refine r_op (o_bin rfl (by first | trivial | (unfold inI64; omega)) (s_no ?_))
  dsimp only [putF, rd, Frame.get]
  refine r_op (o_mov (s_no ?_))
  dsimp only [putF, rd, Frame.get]
  refine r_nil (c_keep ?_)
  dsimp only [List.map]
  dsimp only [putF, rd, Frame.get]
  with_reducible (refine on_n ?_; refine c_ret ?_)
  dsimp only
  unfold merge_Merge_1_r
  refine w_tmp (w_nil ?_)
  dsimp only [retV, Frame.get]
  exact ⟨HM.nil, congrArg AVal.bool (decide_eq_decide.2 (by omega)), hS⟩

theorem index_walk (l : Lines) (hl : l.length ≤ 140737488351232) : HC Try.prog f_slices_IndexFunc___string_string_ [.ros l.length (strs l), .fn (.func f_merge_Merge_1) [] []] HM.nil fun r m' => ∃ i : Int, r = .int .i64 i ∧ (0 ≤ i ↔ ∃ s ∈ l, 600 < s.length) := by
  intro S mf hS
  refine slices_IndexFunc___string_string__ok.out rfl ?_ (by simp [slices_IndexFunc___string_string__fi])
  unfold vcFun slices_IndexFunc___string_string__fi
  dsimp only
  unfold slices_IndexFunc___string_string__c
  dsimp only [argF]
  with_reducible (refine c_seq ?_)
  refine c_ops ?_
  refine r_op (o_mov (s_no ?_))
  dsimp only [putF, rd, Frame.get]
  refine r_nil (c_keep ?_)
  dsimp only [List.map]
  dsimp only [putF, rd, Frame.get]
  with_reducible (refine on_n ?_; refine c_seq ?_; refine c_seq ?_)
  refine c_ops ?_
  refine r_op (o_mov (s_no ?_))
  dsimp only [putF, rd, Frame.get]
  refine r_op (o_len rfl (s_no ?_))
  dsimp only [putF, rd, Frame.get]
  refine r_op (o_mov (s_no ?_))
  dsimp only [putF, rd, Frame.get]
  refine r_nil (c_keep ?_)
  dsimp only [List.map]
  dsimp only [putF, rd, Frame.get]
  with_reducible (refine on_n ?_; refine c_block ?_)
  refine c_loop (fun k xs S => ∃ j : Nat, xs = [.int .i64 (j : Int)] ∧ j ≤ l.length ∧ k = l.length - j ∧ (∀ s ∈ l.take j, ¬ 600 < s.length) ∧ Has S (HM.nil + mf)) l.length ⟨0, rfl, Nat.zero_le _, rfl, fun s hs => by simp at hs, hS⟩ ?_
  clear hS
  rintro k xs S hl' ⟨j, rfl, hj, rfl, he, hS⟩
  dsimp only [zipF, List.map, Frame.get]
  with_reducible (refine c_seq ?_)
  refine c_ops ?_
  refine r_op (o_bin rfl (by first | trivial | (unfold inI64; omega)) (s_no ?_))
  dsimp only [putF, rd, Frame.get]
  refine r_nil (c_keep ?_)
  dsimp only [List.map]
  dsimp only [putF, rd, Frame.get]
  with_reducible (refine on_n ?_; refine c_seq ?_)
  refine c_dec rfl (fun hlt => ?_) (fun hlt => ?_)
  · have h1 : l[j]? = some l[j] := List.getElem?_eq_getElem (by omega)
    have ht1 := strs_at1 h1
    with_reducible (refine c_skip ?_; refine on_n ?_; refine c_seq ?_; refine c_block ?_; refine c_seq ?_)
    refine c_ops ?_
    refine r_op (o_mov (s_no ?_))
    dsimp only [putF, rd, Frame.get]
    refine r_op (o_mov (s_no ?_))
    dsimp only [putF, rd, Frame.get]
    refine r_nil (c_keep ?_)
    dsimp only [List.map]
    dsimp only [putF, rd, Frame.get]
    with_reducible (refine on_n ?_; refine c_seq ?_)
    refine c_ops ?_
    refine r_op (o_mov (s_no ?_))
    dsimp only [putF, rd, Frame.get]
    refine r_op (o_mov (s_no ?_))
    dsimp only [putF, rd, Frame.get]
    refine r_op (o_mov (s_no ?_))
    dsimp only [putF, rd, Frame.get]
    refine r_op (o_iaddrR rfl rfl (by omega) (by assumption) (s_no ?_))
    dsimp only [putF, rd, Frame.get]
    refine r_op (o_loadR rfl rfl rfl (s_no ?_))
    dsimp only [putF, rd, Frame.get]
    refine r_op (o_callv rfl ?_)
    dsimp only [List.map, putF, rd, Frame.get]
    refine (long_rc l[j]).use ?_
    refine s_no ?_
    refine r_nil (c_keep ?_)
    dsimp only [List.map]
    dsimp only [putF, rd, Frame.get]
    with_reducible (refine on_n ?_)
    refine c_dec rfl (fun hd => ?_) (fun hd => ?_)
    · with_reducible (refine c_seq ?_)
      refine c_ops ?_
      refine r_op (o_mov (s_no ?_))
      dsimp only [putF, rd, Frame.get]
      refine r_op (o_mov (s_no ?_))
      dsimp only [putF, rd, Frame.get]
      refine r_nil (c_keep ?_)
      dsimp only [List.map]
      dsimp only [putF, rd, Frame.get]
      with_reducible (refine on_n ?_; refine c_ret ?_; refine ob_r ?_; refine on_r ?_; refine on_r ?_; refine ob_r ?_; refine on_r ?_)
      dsimp only
      unfold slices_IndexFunc___string_string__r
      refine w_tmp (w_nil ?_)
      dsimp only [retV, Frame.get]
      exact ⟨HM.nil, ⟨(j : Int), rfl, ⟨fun _ => ⟨l[j], List.getElem_mem _, hd⟩, fun _ => by omega⟩⟩, hS⟩
    · with_reducible (refine c_skip ?_; refine ob_n ?_; refine on_n ?_)
      refine c_ops ?_
      refine r_op (o_bin rfl (by first | trivial | (unfold inI64; omega)) (s_no ?_))
      dsimp only [putF, rd, Frame.get]
      refine r_op (o_mov (s_no ?_))
      dsimp only [putF, rd, Frame.get]
      refine r_nil (c_keep ?_)
      dsimp only [List.map]
      dsimp only [putF, rd, Frame.get]
      with_reducible (refine on_n ?_)
      refine ⟨l.length - (j + 1), by omega, j + 1, rfl, by omega, rfl, fun s hs => ?_, hS⟩
      rw [List.take_add_one, h1] at hs
      rcases List.mem_append.1 hs with hs | hs
      · exact he s hs
      · simp at hs; subst hs; exact hd
  · obtain rfl : j = l.length := by omega
    rw [List.take_of_length_le (Nat.le_refl _)] at he
    with_reducible (refine c_exit ?_; refine on_e ?_; refine on_e ?_; refine ob_e ?_; refine on_n ?_; refine c_seq ?_)
    refine c_ops ?_
    refine r_op (o_mov (s_no ?_))
    dsimp only [putF, rd, Frame.get]
    refine r_nil (c_keep ?_)
    dsimp only [List.map]
    dsimp only [putF, rd, Frame.get]
    with_reducible (refine on_n ?_; refine c_ret ?_)
    dsimp only
    unfold slices_IndexFunc___string_string__r
    refine w_tmp (w_nil ?_)
    dsimp only [retV, Frame.get]
    exact ⟨HM.nil, ⟨-1, rfl, ⟨fun q => by omega, fun ⟨s, h1, h2⟩ => absurd h2 (he s h1)⟩⟩, hS⟩

theorem contains_rc (l : Lines) (hl : l.length ≤ 140737488351232) : RC Try.prog f_slices_ContainsFunc___string_string_ [.ros l.length (strs l), .fn (.func f_merge_Merge_1) [] []] (.bool (decide (∃ s ∈ l, 600 < s.length))) := by
  refine RC.val ?_
  intro S mf hS
  refine slices_ContainsFunc___string_string__ok.out rfl ?_ (by simp [slices_ContainsFunc___string_string__fi])
  unfold vcFun slices_ContainsFunc___string_string__fi
  dsimp only
  unfold slices_ContainsFunc___string_string__c
  dsimp only [argF]
  with_reducible (refine c_seq ?_)
  refine c_ops ?_
  refine r_op (o_mov (s_no ?_))
  dsimp only [putF, rd, Frame.get]
  refine r_nil (c_keep ?_)
  dsimp only [List.map]
  dsimp only [putF, rd, Frame.get]
  with_reducible (refine on_n ?_; refine c_seq ?_)
  refine c_ops ?_
  refine r_op (o_mov (s_no ?_))
  dsimp only [putF, rd, Frame.get]
  refine r_op (o_mov (s_no ?_))
  dsimp only [putF, rd, Frame.get]
  refine r_op (o_call ?_)
  dsimp only [List.map, putF, rd, Frame.get]
  refine (index_walk l hl).useQ ?_; rintro r ⟨i, rfl, hi⟩
  refine s_no ?_
  refine r_op (o_bin rfl (by first | trivial | (unfold inI64; omega)) (s_no ?_))
  dsimp only [putF, rd, Frame.get]
  refine r_op (o_mov (s_no ?_))
  dsimp only [putF, rd, Frame.get]
  refine r_nil (c_keep ?_)
  dsimp only [List.map]
  dsimp only [putF, rd, Frame.get]
  with_reducible (refine on_n ?_; refine c_ret ?_)
  dsimp only
  unfold slices_ContainsFunc___string_string__r
  refine w_tmp (w_nil ?_)
  dsimp only [retV, Frame.get]
  exact ⟨HM.nil, congrArg AVal.bool (decide_eq_decide.2 hi), hS⟩
end Go.Proofs.Ytdbgppfoenoijaa.H
