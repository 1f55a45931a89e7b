/- Lines of a text and their numbers, walked. Conditions: none. -/
import Derived.Test.YtakkifkpihdcnaaDoorP1
set_option linter.unusedVariables false
set_option linter.unusedSimpArgs false
set_option maxRecDepth 100000
namespace Go.Proofs.YtakkifkpihdcnaaDoor.P
open Go.Vc Go.Fu

theorem splitSeq_walk (s : Bytes) : HC Tryd.prog f_strings_splitSeq [.str s, .str [10], .int .i64 0] HM.nil fun r m' => ∃ l1 v1 l2 v2 l3 v3, r = .fn (.func f_strings_splitSeq_1) [] [.ptr l1 v1 0, .ptr l2 v2 0, .ptr l3 v3 0] ∧ m' = Spl l1 v1 l2 v2 l3 v3 s := by
  intro S mf hS
  refine strings_splitSeq_ok.out rfl ?_ (by simp [strings_splitSeq_fi])
  unfold vcFun strings_splitSeq_fi
  dsimp only
  unfold strings_splitSeq_c
  dsimp only [argF]
  repeat (with_reducible first | refine c_seq ?_ | refine on_n ?_ | refine c_skip ?_ | refine c_block ?_ | refine on_r ?_ | refine c_ret ?_ | refine c_exit ?_ | refine on_e ?_ | refine ob_e ?_ | refine ob_n ?_ | refine ob_r ?_ | refine ob_x rfl ?_)
  refine c_ops ?_
  refine r_op (o_box hS rfl fun v3 l3 S hS => s_no ?_)
  try dsimp only [putF, rd, Frame.get]
  try dsimp only [putF, rd, Frame.get, setCells, over] at hS
  refine r_op (o_box hS rfl fun v4 l4 S hS => s_no ?_)
  try dsimp only [putF, rd, Frame.get]
  try dsimp only [putF, rd, Frame.get, setCells, over] at hS
  refine r_op (o_box hS rfl fun v5 l5 S hS => s_no ?_)
  try dsimp only [putF, rd, Frame.get]
  try dsimp only [putF, rd, Frame.get, setCells, over] at hS
  refine r_op (o_mov (s_no ?_))
  try dsimp only [putF, rd, Frame.get]
  refine r_nil (c_keep ?_)
  try dsimp only [List.map]
  try dsimp only [putF, rd, Frame.get]
  repeat (with_reducible first | refine c_seq ?_ | refine on_n ?_ | refine c_skip ?_ | refine c_block ?_ | refine on_r ?_ | refine c_ret ?_ | refine c_exit ?_ | refine on_e ?_ | refine ob_e ?_ | refine ob_n ?_ | refine ob_r ?_ | refine ob_x rfl ?_)
  refine c_ops ?_
  refine r_op (o_mkfunc (s_no ?_))
  try dsimp only [putF, rd, Frame.get]
  refine r_op (o_mov (s_no ?_))
  try dsimp only [putF, rd, Frame.get]
  refine r_nil (c_keep ?_)
  try dsimp only [List.map]
  try dsimp only [putF, rd, Frame.get]
  repeat (with_reducible first | refine c_seq ?_ | refine on_n ?_ | refine c_skip ?_ | refine c_block ?_ | refine on_r ?_ | refine c_ret ?_ | refine c_exit ?_ | refine on_e ?_ | refine ob_e ?_ | refine ob_n ?_ | refine ob_r ?_ | refine ob_x rfl ?_)
  try dsimp only
  unfold strings_splitSeq_r
  refine w_tmp (w_nil ?_)
  try dsimp only [retV, Frame.get]
  exact ⟨_, ⟨l4, v4, l3, v3, l5, v5, rfl, rfl⟩, hS.eq (by show _ = (pt l4 (.row v4 0 [.str [10]]) + (pt l3 (.row v3 0 [.str s]) + pt l5 (.row v5 0 [.int .i64 0]))) + mf; rw [HM.nil_add]; ac_rfl)⟩

theorem SplitSeq_walk (s : Bytes) : HC Tryd.prog f_strings_SplitSeq [.str s, .str [10]] HM.nil fun r m' => ∃ l1 v1 l2 v2 l3 v3, r = .fn (.func f_strings_splitSeq_1) [] [.ptr l1 v1 0, .ptr l2 v2 0, .ptr l3 v3 0] ∧ m' = Spl l1 v1 l2 v2 l3 v3 s := by
  intro S mf hS
  refine strings_SplitSeq_ok.out rfl ?_ (by simp [strings_SplitSeq_fi])
  unfold vcFun strings_SplitSeq_fi
  dsimp only
  unfold strings_SplitSeq_c
  dsimp only [argF]
  rw [HM.nil_add] at hS
  repeat (with_reducible first | refine c_seq ?_ | refine on_n ?_ | refine c_skip ?_ | refine c_block ?_ | refine on_r ?_ | refine c_ret ?_ | refine c_exit ?_ | refine on_e ?_ | refine ob_e ?_ | refine ob_n ?_ | refine ob_r ?_ | refine ob_x rfl ?_)
  refine c_ops ?_
  refine r_op (o_mov (s_no ?_))
  try dsimp only [putF, rd, Frame.get]
  refine r_nil (c_keep ?_)
  try dsimp only [List.map]
  try dsimp only [putF, rd, Frame.get]
  repeat (with_reducible first | refine c_seq ?_ | refine on_n ?_ | refine c_skip ?_ | refine c_block ?_ | refine on_r ?_ | refine c_ret ?_ | refine c_exit ?_ | refine on_e ?_ | refine ob_e ?_ | refine ob_n ?_ | refine ob_r ?_ | refine ob_x rfl ?_)
  refine c_ops ?_
  refine r_op (o_mov (s_no ?_))
  try dsimp only [putF, rd, Frame.get]
  refine r_op (o_mov (s_no ?_))
  try dsimp only [putF, rd, Frame.get]
  refine r_op (o_call ?_)
  dsimp only [List.map, putF, rd, Frame.get]
  refine (splitSeq_walk s).more hS fun r m' S h hS => ?_; obtain ⟨l1, v1, l2, v2, l3, v3, rfl, rfl⟩ := h
  refine s_no ?_
  try dsimp only [putF, rd, Frame.get]
  refine r_op (o_mov (s_no ?_))
  try dsimp only [putF, rd, Frame.get]
  refine r_nil (c_keep ?_)
  try dsimp only [List.map]
  try dsimp only [putF, rd, Frame.get]
  repeat (with_reducible first | refine c_seq ?_ | refine on_n ?_ | refine c_skip ?_ | refine c_block ?_ | refine on_r ?_ | refine c_ret ?_ | refine c_exit ?_ | refine on_e ?_ | refine ob_e ?_ | refine ob_n ?_ | refine ob_r ?_ | refine ob_x rfl ?_)
  try dsimp only
  unfold strings_SplitSeq_r
  refine w_tmp (w_nil ?_)
  try dsimp only [retV, Frame.get]
  exact ⟨_, ⟨l1, v1, l2, v2, l3, v3, rfl, rfl⟩, hS⟩
theorem of_use (hO : Con Tryd.prog f_poly_Of poly_Of_ct) {s : Bytes} {S : Store} {K : AVal → Store → Prop} (hs : fitS s) (h : K (.agg [.int .i64 (polyOf s).1, .int .i64 (polyOf s).2]) S) : ACalls Tryd.prog f_poly_Of [.str s] S K := hO.plain s hs rfl h

theorem Lines_walk (hO : Con Tryd.prog f_poly_Of poly_Of_ct) (text : Bytes) :
    HC Tryd.prog f_poly_Lines [.str text] HM.nil fun r m' => (600 < text.length ∧ r = .tup [.nils, .int .i64 1]) ∨ (¬ 600 < text.length ∧ ∃ x ml X, r = .tup [x, .int .i64 0] ∧ SlW 1 x (((cutLines text).map fun l => (polyOf l).1).map (.int .i64)) (cutLines text).length ml ∧ m' = ml + X) := by
  intro S mf hS
  rw [HM.nil_add] at hS
  refine poly_Lines_ok.out (by simp) ?_
  unfold vcFunL poly_Lines_c
  dsimp only [argF]
  refine l_seqR ?_
  refine c_ops ?_
  refine r_op (o_mov (s_no ?_))
  try dsimp only [putF, rd, Frame.get]
  refine r_op (o_mov (s_no ?_))
  try dsimp only [putF, rd, Frame.get]
  refine r_nil (c_keep ?_)
  try dsimp only [List.map]
  try dsimp only [putF, rd, Frame.get]
  repeat (with_reducible first | refine c_seq ?_ | refine on_n ?_ | refine c_skip ?_ | refine c_block ?_ | refine on_r ?_ | refine c_ret ?_ | refine c_exit ?_ | refine on_e ?_ | refine ob_e ?_ | refine ob_n ?_ | refine ob_r ?_ | refine ob_x rfl ?_)
  refine l_seqR ?_
  repeat (with_reducible first | refine c_seq ?_ | refine on_n ?_ | refine c_skip ?_ | refine c_block ?_ | refine on_r ?_ | refine c_ret ?_ | refine c_exit ?_ | refine on_e ?_ | refine ob_e ?_ | refine ob_n ?_ | refine ob_r ?_ | refine ob_x rfl ?_)
  refine c_ops ?_
  refine r_op (o_mov (s_no ?_))
  try dsimp only [putF, rd, Frame.get]
  refine r_op (o_len rfl (s_no ?_))
  try dsimp only [putF, rd, Frame.get]
  refine r_op (o_bin rfl (by first | trivial | (unfold inI64; omega)) (s_no ?_))
  try dsimp only [putF, rd, Frame.get]
  refine r_nil (c_keep ?_)
  try dsimp only [List.map]
  try dsimp only [putF, rd, Frame.get]
  repeat (with_reducible first | refine c_seq ?_ | refine on_n ?_ | refine c_skip ?_ | refine c_block ?_ | refine on_r ?_ | refine c_ret ?_ | refine c_exit ?_ | refine on_e ?_ | refine ob_e ?_ | refine ob_n ?_ | refine ob_r ?_ | refine ob_x rfl ?_)
  refine c_dec rfl (fun hc => ?_) (fun hc => ?_)
  · repeat (with_reducible first | refine c_seq ?_ | refine on_n ?_ | refine c_skip ?_ | refine c_block ?_ | refine on_r ?_ | refine c_ret ?_ | refine c_exit ?_ | refine on_e ?_ | refine ob_e ?_ | refine ob_n ?_ | refine ob_r ?_ | refine ob_x rfl ?_)
    refine c_ops ?_
    refine r_op (o_mov (s_no ?_))
    try dsimp only [putF, rd, Frame.get]
    refine r_op (o_mov (s_no ?_))
    try dsimp only [putF, rd, Frame.get]
    refine r_nil (c_keep ?_)
    try dsimp only [List.map]
    try dsimp only [putF, rd, Frame.get]
    repeat (with_reducible first | refine c_seq ?_ | refine on_n ?_ | refine c_skip ?_ | refine c_block ?_ | refine on_r ?_ | refine c_ret ?_ | refine c_exit ?_ | refine on_e ?_ | refine ob_e ?_ | refine ob_n ?_ | refine ob_r ?_ | refine ob_x rfl ?_)
    try dsimp only
    unfold poly_Lines_r
    refine w_tmp (w_tmp (w_nil ?_))
    try dsimp only [retV, Frame.get]
    exact ⟨HM.nil, .inl ⟨by omega, rfl⟩, by rw [HM.nil_add]; exact hS⟩
  have hc : ¬ 600 < text.length := by omega
  repeat (with_reducible first | refine c_seq ?_ | refine on_n ?_ | refine c_skip ?_ | refine c_block ?_ | refine on_r ?_ | refine c_ret ?_ | refine c_exit ?_ | refine on_e ?_ | refine ob_e ?_ | refine ob_n ?_ | refine ob_r ?_ | refine ob_x rfl ?_)
  refine l_seqR ?_
  refine c_ops ?_
  refine r_op (o_alloc hS fun v4 l4 S hS => s_no ?_)
  try dsimp only [putF, rd, Frame.get]
  refine r_nil (c_keep ?_)
  try dsimp only [List.map]
  try dsimp only [putF, rd, Frame.get]
  repeat (with_reducible first | refine c_seq ?_ | refine on_n ?_ | refine c_skip ?_ | refine c_block ?_ | refine on_r ?_ | refine c_ret ?_ | refine c_exit ?_ | refine on_e ?_ | refine ob_e ?_ | refine ob_n ?_ | refine ob_r ?_ | refine ob_x rfl ?_)
  refine l_seqL (l_seqR ?_)
  refine c_ops ?_
  refine r_op (o_mov (s_no ?_))
  try dsimp only [putF, rd, Frame.get]
  refine r_op (o_call ?_)
  dsimp only [List.map, putF, rd, Frame.get]
  refine (SplitSeq_walk text).more hS fun r m' S h hS => ?_; obtain ⟨l1, v1, l2, v2, l3, v3, rfl, rfl⟩ := h
  refine s_no ?_
  try dsimp only [putF, rd, Frame.get]
  refine r_nil (c_keep ?_)
  try dsimp only [List.map]
  try dsimp only [putF, rd, Frame.get]
  repeat (with_reducible first | refine c_seq ?_ | refine on_n ?_ | refine c_skip ?_ | refine c_block ?_ | refine on_r ?_ | refine c_ret ?_ | refine c_exit ?_ | refine on_e ?_ | refine ob_e ?_ | refine ob_n ?_ | refine ob_r ?_ | refine ob_x rfl ?_)
  refine l_block ?_
  have hcl := cutLines_len text
  have fin : fitS text := by show text.length ≤ _; omega
  refine l_range (fun i d => ∃ x ml, SlW 1 x (((cutLines text).take i |>.map fun l => (polyOf l).1).map (.int .i64)) i ml ∧ d = pt l4 (.row v4 0 [x]) + ml)
    (fun i F => ∃ s, (cutLines text)[i]? = some s ∧ F = [(4, .ptr l4 v4 0), (5, .str s)]) rfl (by kernel_rfl) (split_seq text fin l1 v1 l2 v2 l3 v3) (hS.eq (m' := (Spl l1 v1 l2 v2 l3 v3 text + (pt l4 (.row v4 0 [.nils]) + HM.nil)) + mf) (by rw [HM.add_nil]; ac_rfl)) ⟨.nils, HM.nil, SlW.nil, rfl⟩ ?_ ?_ ?_ ?_
  · intro a ha
    obtain ⟨l, _, rfl⟩ := List.mem_map.1 ha
    rfl
  · intro i a S hi
    rw [List.getElem?_map] at hi
    cases hs : (cutLines text)[i]? with
    | none => rw [hs] at hi; cases hi
    | some s =>
      rw [hs] at hi
      cases hi
      unfold lineA
      dsimp only [putsF]
      refine c_ops ?_
      refine r_op (o_mov (s_no ?_))
      try dsimp only [putF, rd, Frame.get]
      refine r_nil (c_keep ?_)
      try dsimp only [List.map]
      try dsimp only [putF, rd, Frame.get]
      exact ⟨rfl, rfl, s, rfl, rfl⟩
  · rintro i F1 S d mf hlt ⟨x, ml, hx, rfl⟩ ⟨s, hs, rfl⟩ hS
    rw [List.length_map] at hlt
    have hsl : s.length ≤ text.length := hcl.2 s (List.mem_of_getElem? hs)
    repeat (with_reducible first | refine c_seq ?_ | refine on_n ?_ | refine c_skip ?_ | refine c_block ?_ | refine on_r ?_ | refine c_ret ?_ | refine c_exit ?_ | refine on_e ?_ | refine ob_e ?_ | refine ob_n ?_ | refine ob_r ?_ | refine ob_x rfl ?_)
    refine c_opsD0 hS fun S hS => ?_
    first | refine d_op (q_op rfl (o_load hS rfl rfl rfl rfl (s_no ?_))) | refine d_op (q_op rfl (o_load hS rfl rfl (by assumption) rfl (s_no ?_))) | refine d_op (q_op rfl (o_loadR rfl rfl rfl (s_no ?_))) | refine d_op (q_op rfl (o_loadR rfl (by assumption) rfl (s_no ?_)))
    try dsimp only [putF, rd, Frame.get]
    refine d_op (q_op rfl (o_mov (s_no ?_)))
    try dsimp only [putF, rd, Frame.get]
    refine d_op (q_call _ (of_use hO (s := s) (show s.length ≤ 140737488351232 by omega) ⟨rfl, rfl⟩) ?_)
    refine s_no ?_
    try dsimp only [putF, rd, Frame.get]
    refine d_zero ?_
    refine r_op (o_field rfl rfl rfl (s_no ?_))
    try dsimp only [putF, rd, Frame.get]
    refine r_op (o_bsliceR rfl (s_no ?_))
    try dsimp only [putF, rd, Frame.get, setCells, over]
    try dsimp only [putF, rd, Frame.get, setCells, over] at hS
    refine r_op ?_
    refine o_appendW hS rfl hx rfl rfl (by omega) fun x' ml' S hx' hS => ?_
    refine s_no ?_
    try dsimp only [putF, rd, Frame.get]
    refine r_op ?_
    refine o_store hS rfl rfl hx'.cl rfl (by simp) fun S hS => ?_; (try dsimp only [putF, rd, Frame.get, setCells, over] at hS)
    refine s_no ?_
    try dsimp only [putF, rd, Frame.get]
    refine r_nil (c_keep ?_)
    try dsimp only [List.map]
    try dsimp only [putF, rd, Frame.get]
    repeat (with_reducible first | refine c_seq ?_ | refine on_n ?_ | refine c_skip ?_ | refine c_block ?_ | refine on_r ?_ | refine c_ret ?_ | refine c_exit ?_ | refine on_e ?_ | refine ob_e ?_ | refine ob_n ?_ | refine ob_r ?_ | refine ob_x rfl ?_)
    refine ⟨rfl, _, ⟨x', ml', ?_, rfl⟩, hS⟩
    rw [List.take_add_one, hs, List.map_append, List.map_append]
    exact hx'
  · rintro d X S ⟨x, ml, hx, rfl⟩ hS
    rw [List.length_map, List.take_of_length_le (Nat.le_refl _)] at hx
    repeat (with_reducible first | refine c_seq ?_ | refine on_n ?_ | refine c_skip ?_ | refine c_block ?_ | refine on_r ?_ | refine c_ret ?_ | refine c_exit ?_ | refine on_e ?_ | refine ob_e ?_ | refine ob_n ?_ | refine ob_r ?_ | refine ob_x rfl ?_)
    refine c_ops ?_
    first | refine r_op (o_load hS rfl rfl rfl rfl (s_no ?_)) | refine r_op (o_load hS rfl rfl (by assumption) rfl (s_no ?_)) | refine r_op (o_loadR rfl rfl rfl (s_no ?_)) | refine r_op (o_loadR rfl (by assumption) rfl (s_no ?_))
    try dsimp only [putF, rd, Frame.get]
    refine r_op (o_mov (s_no ?_))
    try dsimp only [putF, rd, Frame.get]
    refine r_op (o_mov (s_no ?_))
    try dsimp only [putF, rd, Frame.get]
    refine r_nil (c_keep ?_)
    try dsimp only [List.map]
    try dsimp only [putF, rd, Frame.get]
    repeat (with_reducible first | refine c_seq ?_ | refine on_n ?_ | refine c_skip ?_ | refine c_block ?_ | refine on_r ?_ | refine c_ret ?_ | refine c_exit ?_ | refine on_e ?_ | refine ob_e ?_ | refine ob_n ?_ | refine ob_r ?_ | refine ob_x rfl ?_)
    try dsimp only
    unfold poly_Lines_r
    refine w_tmp (w_tmp (w_nil ?_))
    try dsimp only [retV, Frame.get]
    exact ⟨_, .inr ⟨hc, x, ml, pt l4 (.row v4 0 [x]) + X, rfl, hx, rfl⟩, hS.eq (by ac_rfl)⟩
theorem poly_Lines_con (hO : Con Tryd.prog f_poly_Of poly_Of_ct) : Con Tryd.prog f_poly_Lines poly_Lines_ct := by
  refine ⟨poly_Lines_ok.able, fun (s : Bytes) hp => ?_⟩
  show ACalls Tryd.prog f_poly_Lines [.str s] [] (resR [.own tI, .val tI] (polyLines s))
  refine HC.plainly (Lines_walk hO s) ?_
  rintro r m' S' (⟨h6, rfl⟩ | ⟨h6, x, ml, X, rfl, hx, rfl⟩) hS
  · have e : polyLines s = ([], 1) := by unfold polyLines; rw [if_pos h6]
    rw [e]
    exact ⟨_, id, [], LeV.refl _, has_none, [.nils, .int .i64 1], .inr ⟨rfl, [.int .i64 1], rfl, [], rfl, rfl, rfl⟩, rfl⟩
  · have e : polyLines s = ((cutLines s).map fun l => (polyOf l).1, 0) := by unfold polyLines; rw [if_neg h6]
    rw [e]
    have em : ∀ l : List Int, l.map (AVal.int .i64) = l.flatMap (encT tI) := fun l => by
      show _ = l.flatMap fun n : Int => [AVal.int .i64 n]
      induction l with
      | nil => rfl
      | cons a l ih => rw [List.map_cons, ih, List.flatMap_cons]; rfl
    rcases hx with ⟨rfl, h0, h1, rfl⟩ | ⟨p, v, rfl, rfl, h1⟩
    · have hn : cutLines s = [] := List.length_eq_zero_iff.1 h0
      rw [hn]
      exact ⟨_, id, [], LeV.refl _, has_none, [.nils, .int .i64 0], .inr ⟨rfl, [.int .i64 0], rfl, [], rfl, rfl, rfl⟩, rfl⟩
    · rw [em] at hS
      refine ⟨.tup [.sl 0 v 0 (cutLines s).length, .int .i64 0], _, _, .tup (.cons .sl (.refl _)), has_one hS, [.sl 0 v 0 (cutLines s).length, .int .i64 0], .inl ⟨v, [.int .i64 0], [], ?_, rfl, [], rfl, rfl, rfl⟩, rfl⟩
      show _ = AVal.sl 0 v 0 ((cutLines s).map fun l => (polyOf l).1).length :: _
      rw [List.length_map]
end Go.Proofs.YtakkifkpihdcnaaDoor.P
