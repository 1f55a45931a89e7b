/- Lines of a text, one by one, as the library cuts them, walked. Conditions: none. -/
import Derived.Test.YtakkifkpihdcnaaDoorGP
import Derived.Test.YtakkifkpihdcnaaDoorVh6
import Derived.Test.YtakkifkpihdcnaaDoorVpLN
set_option linter.unusedVariables false
set_option linter.unusedSimpArgs false
set_option maxRecDepth 100000
namespace Go.Proofs.YtakkifkpihdcnaaDoor.P
open Go.Vc Go.Fu

theorem ibyte_rc (s : Bytes) : RC Tryd.prog f_internal_stringslite_IndexByte [.str s, .int .u8 10] (.int .i64 (Lib.indexByte s 10)) := by
  refine RC.val ?_
  intro S mf hS
  refine internal_stringslite_IndexByte_ok.out rfl ?_ (by simp [internal_stringslite_IndexByte_fi])
  unfold vcFun internal_stringslite_IndexByte_fi
  dsimp only
  unfold internal_stringslite_IndexByte_c
  dsimp only [argF]
  repeat (with_reducible first | refine c_seq ?_ | refine on_n ?_ | refine c_skip ?_ | refine c_block ?_ | refine on_r ?_ | refine c_ret ?_ | refine c_exit ?_ | refine on_e ?_ | refine ob_e ?_ | refine ob_n ?_ | refine ob_r ?_ | refine ob_x rfl ?_)
  refine c_ops ?_
  refine r_op (o_mov (s_no ?_))
  try dsimp only [putF, rd, Frame.get]
  refine r_nil (c_keep ?_)
  try dsimp only [List.map]
  try dsimp only [putF, rd, Frame.get]
  repeat (with_reducible first | refine c_seq ?_ | refine on_n ?_ | refine c_skip ?_ | refine c_block ?_ | refine on_r ?_ | refine c_ret ?_ | refine c_exit ?_ | refine on_e ?_ | refine ob_e ?_ | refine ob_n ?_ | refine ob_r ?_ | refine ob_x rfl ?_)
  refine c_ops ?_
  refine r_op (o_mov (s_no ?_))
  try dsimp only [putF, rd, Frame.get]
  refine r_op (o_mov (s_no ?_))
  try dsimp only [putF, rd, Frame.get]
  refine r_op (o_ext rfl (s_no ?_))
  try dsimp only [putF, rd, Frame.get]
  refine r_op (o_mov (s_no ?_))
  try dsimp only [putF, rd, Frame.get]
  refine r_nil (c_keep ?_)
  try dsimp only [List.map]
  try dsimp only [putF, rd, Frame.get]
  repeat (with_reducible first | refine c_seq ?_ | refine on_n ?_ | refine c_skip ?_ | refine c_block ?_ | refine on_r ?_ | refine c_ret ?_ | refine c_exit ?_ | refine on_e ?_ | refine ob_e ?_ | refine ob_n ?_ | refine ob_r ?_ | refine ob_x rfl ?_)
  try dsimp only
  unfold internal_stringslite_IndexByte_r
  refine w_tmp (w_nil ?_)
  try dsimp only [retV, Frame.get]
  exact ⟨HM.nil, rfl, hS⟩

theorem sindex_rc (s : Bytes) : RC Tryd.prog f_internal_stringslite_Index [.str s, .str [10]] (.int .i64 (Lib.indexByte s 10)) := by
  refine RC.val ?_
  intro S mf hS
  refine internal_stringslite_Index_ok.out rfl ?_ (by simp [internal_stringslite_Index_fi])
  unfold vcFun internal_stringslite_Index_fi
  dsimp only
  unfold internal_stringslite_Index_c
  dsimp only [argF]
  repeat (with_reducible first | refine c_seq ?_ | refine on_n ?_ | refine c_skip ?_ | refine c_block ?_ | refine on_r ?_ | refine c_ret ?_ | refine c_exit ?_ | refine on_e ?_ | refine ob_e ?_ | refine ob_n ?_ | refine ob_r ?_ | refine ob_x rfl ?_)
  refine c_ops ?_
  refine r_op (o_mov (s_no ?_))
  try dsimp only [putF, rd, Frame.get]
  refine r_nil (c_keep ?_)
  try dsimp only [List.map]
  try dsimp only [putF, rd, Frame.get]
  repeat (with_reducible first | refine c_seq ?_ | refine on_n ?_ | refine c_skip ?_ | refine c_block ?_ | refine on_r ?_ | refine c_ret ?_ | refine c_exit ?_ | refine on_e ?_ | refine ob_e ?_ | refine ob_n ?_ | refine ob_r ?_ | refine ob_x rfl ?_)
  refine c_ops ?_
  refine r_op (o_mov (s_no ?_))
  try dsimp only [putF, rd, Frame.get]
  refine r_op (o_len rfl (s_no ?_))
  try dsimp only [putF, rd, Frame.get]
  refine r_op (o_mov (s_no ?_))
  try dsimp only [putF, rd, Frame.get]
  refine r_nil (c_keep ?_)
  try dsimp only [List.map]
  try dsimp only [putF, rd, Frame.get]
  repeat (with_reducible first | refine c_seq ?_ | refine on_n ?_ | refine c_skip ?_ | refine c_block ?_ | refine on_r ?_ | refine c_ret ?_ | refine c_exit ?_ | refine on_e ?_ | refine ob_e ?_ | refine ob_n ?_ | refine ob_r ?_ | refine ob_x rfl ?_)
  refine c_ops ?_
  refine r_op (o_mov (s_no ?_))
  try dsimp only [putF, rd, Frame.get]
  refine r_op (o_bin rfl (by first | trivial | (unfold inI64; omega)) (s_no ?_))
  try dsimp only [putF, rd, Frame.get]
  refine r_op ?_
  refine o_mov (s_dec (fun hg => by exfalso; simp at hg) (fun hg => ?_))
  try dsimp only [putF, rd, Frame.get]
  first | ((with_reducible refine r_st ?_ ?_); (· rfl)) | ((with_reducible refine r_sf ?_ ?_); (· rfl)) | ((with_reducible refine r_su (xs := []) ?_ ?_); (· rfl)) | refine r_ff rfl (o_mov (s_no ?_))
  try dsimp only [putF, rd, Frame.get]
  first | ((with_reducible refine r_st ?_ ?_); (· rfl)) | ((with_reducible refine r_sf ?_ ?_); (· rfl)) | ((with_reducible refine r_su (xs := []) ?_ ?_); (· rfl)) | refine r_ff rfl (o_mov (s_no ?_))
  try dsimp only [putF, rd, Frame.get]
  first | ((with_reducible refine r_st ?_ ?_); (· rfl)) | ((with_reducible refine r_sf ?_ ?_); (· rfl)) | ((with_reducible refine r_su (xs := []) ?_ ?_); (· rfl)) | refine r_ff rfl (o_bin rfl (by first | trivial | (unfold inI64; omega)) (s_no ?_))
  try dsimp only [putF, rd, Frame.get]
  first | refine r_op (o_pickT rfl (s_no ?_)) | refine r_op (o_pickF rfl (s_no ?_))
  try dsimp only [putF, rd, Frame.get]
  refine r_op (o_mov (s_no ?_))
  try dsimp only [putF, rd, Frame.get]
  refine r_nil (c_keep ?_)
  try dsimp only [List.map]
  try dsimp only [putF, rd, Frame.get]
  repeat (with_reducible first | refine c_seq ?_ | refine on_n ?_ | refine c_skip ?_ | refine c_block ?_ | refine on_r ?_ | refine c_ret ?_ | refine c_exit ?_ | refine on_e ?_ | refine ob_e ?_ | refine ob_n ?_ | refine ob_r ?_ | refine ob_x rfl ?_)
  refine c_dec rfl (fun hc => ?_) (fun hc => ?_)
  · repeat (with_reducible first | refine c_seq ?_ | refine on_n ?_ | refine c_skip ?_ | refine c_block ?_ | refine on_r ?_ | refine c_ret ?_ | refine c_exit ?_ | refine on_e ?_ | refine ob_e ?_ | refine ob_n ?_ | refine ob_r ?_ | refine ob_x rfl ?_)
    refine c_ops ?_
    refine r_op (o_mov (s_no ?_))
    try dsimp only [putF, rd, Frame.get]
    refine r_nil (c_keep ?_)
    try dsimp only [List.map]
    try dsimp only [putF, rd, Frame.get]
    repeat (with_reducible first | refine c_seq ?_ | refine on_n ?_ | refine c_skip ?_ | refine c_block ?_ | refine on_r ?_ | refine c_ret ?_ | refine c_exit ?_ | refine on_e ?_ | refine ob_e ?_ | refine ob_n ?_ | refine ob_r ?_ | refine ob_x rfl ?_)
    try dsimp only
    unfold internal_stringslite_Index_r
    refine w_tmp (w_nil ?_)
    try dsimp only [retV, Frame.get]
    refine ⟨HM.nil, ?_, hS⟩
    rw [← hc]; rfl
  repeat (with_reducible first | refine c_seq ?_ | refine on_n ?_ | refine c_skip ?_ | refine c_block ?_ | refine on_r ?_ | refine c_ret ?_ | refine c_exit ?_ | refine on_e ?_ | refine ob_e ?_ | refine ob_n ?_ | refine ob_r ?_ | refine ob_x rfl ?_)
  refine c_ops ?_
  refine r_op (o_mov (s_no ?_))
  try dsimp only [putF, rd, Frame.get]
  refine r_op (o_bin rfl (by first | trivial | (unfold inI64; omega)) (s_no ?_))
  try dsimp only [putF, rd, Frame.get]
  refine r_op (o_mov (s_no ?_))
  try dsimp only [putF, rd, Frame.get]
  refine r_nil (c_keep ?_)
  try dsimp only [List.map]
  try dsimp only [putF, rd, Frame.get]
  repeat (with_reducible first | refine c_seq ?_ | refine on_n ?_ | refine c_skip ?_ | refine c_block ?_ | refine on_r ?_ | refine c_ret ?_ | refine c_exit ?_ | refine on_e ?_ | refine ob_e ?_ | refine ob_n ?_ | refine ob_r ?_ | refine ob_x rfl ?_)
  refine c_dec rfl (fun hd => ?_) (fun hd => ?_)
  · have h10 : ([10] : Bytes)[0]? = some 10 := rfl
    repeat (with_reducible first | refine c_seq ?_ | refine on_n ?_ | refine c_skip ?_ | refine c_block ?_ | refine on_r ?_ | refine c_ret ?_ | refine c_exit ?_ | refine on_e ?_ | refine ob_e ?_ | refine ob_n ?_ | refine ob_r ?_ | refine ob_x rfl ?_)
    refine c_ops ?_
    refine r_op (o_mov (s_no ?_))
    try dsimp only [putF, rd, Frame.get]
    refine r_op (o_mov (s_no ?_))
    try dsimp only [putF, rd, Frame.get]
    first | refine r_op (o_indexS (j := 0) rfl rfl (by assumption) (s_no ?_)) | refine r_op (o_indexA (j := 0) rfl rfl (by omega) rfl rfl (s_no ?_))
    try dsimp only [putF, rd, Frame.get]
    refine r_op (o_call ?_)
    dsimp only [List.map, putF, rd, Frame.get]
    refine (ibyte_rc s).use ?_
    refine s_no ?_
    try dsimp only [putF, rd, Frame.get]
    refine r_op (o_mov (s_no ?_))
    try dsimp only [putF, rd, Frame.get]
    refine r_nil (c_keep ?_)
    try dsimp only [List.map]
    try dsimp only [putF, rd, Frame.get]
    repeat (with_reducible first | refine c_seq ?_ | refine on_n ?_ | refine c_skip ?_ | refine c_block ?_ | refine on_r ?_ | refine c_ret ?_ | refine c_exit ?_ | refine on_e ?_ | refine ob_e ?_ | refine ob_n ?_ | refine ob_r ?_ | refine ob_x rfl ?_)
    try dsimp only
    unfold internal_stringslite_Index_r
    refine w_tmp (w_nil ?_)
    try dsimp only [retV, Frame.get]
    exact ⟨HM.nil, rfl, hS⟩
  · exfalso; simp at hd

theorem index_rc (s : Bytes) : RC Tryd.prog f_strings_Index [.str s, .str [10]] (.int .i64 (Lib.indexByte s 10)) := by
  refine RC.val ?_
  intro S mf hS
  refine strings_Index_ok.out rfl ?_ (by simp [strings_Index_fi])
  unfold vcFun strings_Index_fi
  dsimp only
  unfold strings_Index_c
  dsimp only [argF]
  repeat (with_reducible first | refine c_seq ?_ | refine on_n ?_ | refine c_skip ?_ | refine c_block ?_ | refine on_r ?_ | refine c_ret ?_ | refine c_exit ?_ | refine on_e ?_ | refine ob_e ?_ | refine ob_n ?_ | refine ob_r ?_ | refine ob_x rfl ?_)
  refine c_ops ?_
  refine r_op (o_mov (s_no ?_))
  try dsimp only [putF, rd, Frame.get]
  refine r_nil (c_keep ?_)
  try dsimp only [List.map]
  try dsimp only [putF, rd, Frame.get]
  repeat (with_reducible first | refine c_seq ?_ | refine on_n ?_ | refine c_skip ?_ | refine c_block ?_ | refine on_r ?_ | refine c_ret ?_ | refine c_exit ?_ | refine on_e ?_ | refine ob_e ?_ | refine ob_n ?_ | refine ob_r ?_ | refine ob_x rfl ?_)
  refine c_ops ?_
  refine r_op (o_mov (s_no ?_))
  try dsimp only [putF, rd, Frame.get]
  refine r_op (o_mov (s_no ?_))
  try dsimp only [putF, rd, Frame.get]
  refine r_op (o_call ?_)
  dsimp only [List.map, putF, rd, Frame.get]
  refine (sindex_rc s).use ?_
  refine s_no ?_
  try dsimp only [putF, rd, Frame.get]
  refine r_op (o_mov (s_no ?_))
  try dsimp only [putF, rd, Frame.get]
  refine r_nil (c_keep ?_)
  try dsimp only [List.map]
  try dsimp only [putF, rd, Frame.get]
  repeat (with_reducible first | refine c_seq ?_ | refine on_n ?_ | refine c_skip ?_ | refine c_block ?_ | refine on_r ?_ | refine c_ret ?_ | refine c_exit ?_ | refine on_e ?_ | refine ob_e ?_ | refine ob_n ?_ | refine ob_r ?_ | refine ob_x rfl ?_)
  try dsimp only
  unfold strings_Index_r
  refine w_tmp (w_nil ?_)
  try dsimp only [retV, Frame.get]
  exact ⟨HM.nil, rfl, hS⟩
/-- What the iterator has of its own: what is cut at, what is left, how much of what is cut at is kept. -/
abbrev Spl (l1 v1 l2 v2 l3 v3 : Nat) (s : Bytes) : HM := pt l1 (.row v1 0 [.str [10]]) + (pt l2 (.row v2 0 [.str s]) + pt l3 (.row v3 0 [.int .i64 0]))
def lineA (s : Bytes) : List AVal := [.str s]

theorem split_seq (text : Bytes) (ht : fitS text) (l1 v1 l2 v2 l3 v3 : Nat) : HSeq Tryd.prog f_strings_splitSeq_1 [.ptr l1 v1 0, .ptr l2 v2 0, .ptr l3 v3 0] ((cutLines text).map lineA) (Spl l1 v1 l2 v2 l3 v3 text) := by
  intro b C hY c h0 S mf hS
  have ht : text.length ≤ 140737488351232 := ht
  refine strings_splitSeq_1_ok.out rfl ?_ (by simp [strings_splitSeq_1_fi])
  unfold vcFun strings_splitSeq_1_fi
  dsimp only
  unfold strings_splitSeq_1_c
  dsimp only [argF]
  repeat (with_reducible first | refine c_seq ?_ | refine on_n ?_ | refine c_skip ?_ | refine c_block ?_ | refine on_r ?_ | refine c_ret ?_ | refine c_exit ?_ | refine on_e ?_ | refine ob_e ?_ | refine ob_n ?_ | refine ob_r ?_ | refine ob_x rfl ?_)
  refine c_ops ?_
  first | refine r_op (o_load hS rfl rfl rfl rfl (s_no ?_)) | refine r_op (o_load hS rfl rfl (by assumption) rfl (s_no ?_)) | refine r_op (o_loadR rfl rfl rfl (s_no ?_)) | refine r_op (o_loadR rfl (by assumption) rfl (s_no ?_))
  try dsimp only [putF, rd, Frame.get]
  refine r_op (o_len rfl (s_no ?_))
  try dsimp only [putF, rd, Frame.get]
  refine r_op (o_bin rfl (by first | trivial | (unfold inI64; omega)) (s_no ?_))
  try dsimp only [putF, rd, Frame.get]
  refine r_nil (c_keep ?_)
  try dsimp only [List.map]
  try dsimp only [putF, rd, Frame.get]
  repeat (with_reducible first | refine c_seq ?_ | refine on_n ?_ | refine c_skip ?_ | refine c_block ?_ | refine on_r ?_ | refine c_ret ?_ | refine c_exit ?_ | refine on_e ?_ | refine ob_e ?_ | refine ob_n ?_ | refine ob_r ?_ | refine ob_x rfl ?_)
  refine c_dec rfl (fun hc => ?_) (fun hc => ?_)
  · exfalso; simp at hc
  repeat (with_reducible first | refine c_seq ?_ | refine on_n ?_ | refine c_skip ?_ | refine c_block ?_ | refine on_r ?_ | refine c_ret ?_ | refine c_exit ?_ | refine on_e ?_ | refine ob_e ?_ | refine ob_n ?_ | refine ob_r ?_ | refine ob_x rfl ?_)
  refine c_loop (fun n xs S => ∃ (j : Nat) (rest : Bytes) (c : HM), xs = [] ∧ n = rest.length ∧ rest.length ≤ text.length ∧ cutLines text = (cutLines text).take j ++ cutLines rest ∧ j + (cutLines rest).length = (cutLines text).length ∧ C j c ∧ Has S ((Spl l1 v1 l2 v2 l3 v3 rest + c) + mf)) text.length ⟨0, text, c, rfl, rfl, Nat.le_refl _, by simp, by simp, h0, hS⟩ ?_
  clear hS hc
  rintro n xs S hl' ⟨j, rest, c, rfl, rfl, hle, hcut, hlen, hC, hS⟩
  dsimp only [zipF, List.map, Frame.get]
  have hnext := cut_next rest
  have hge := Lib.indexByte_ge rest 10
  have hup : Lib.indexByte rest 10 ≤ rest.length := by
    rcases indexByte_spec rest 10 with q | q <;> omega
  repeat (with_reducible first | refine c_seq ?_ | refine on_n ?_ | refine c_skip ?_ | refine c_block ?_ | refine on_r ?_ | refine c_ret ?_ | refine c_exit ?_ | refine on_e ?_ | refine ob_e ?_ | refine ob_n ?_ | refine ob_r ?_ | refine ob_x rfl ?_)
  refine c_ops ?_
  first | refine r_op (o_load hS rfl rfl rfl rfl (s_no ?_)) | refine r_op (o_load hS rfl rfl (by assumption) rfl (s_no ?_)) | refine r_op (o_loadR rfl rfl rfl (s_no ?_)) | refine r_op (o_loadR rfl (by assumption) rfl (s_no ?_))
  try dsimp only [putF, rd, Frame.get]
  first | refine r_op (o_load hS rfl rfl rfl rfl (s_no ?_)) | refine r_op (o_load hS rfl rfl (by assumption) rfl (s_no ?_)) | refine r_op (o_loadR rfl rfl rfl (s_no ?_)) | refine r_op (o_loadR rfl (by assumption) rfl (s_no ?_))
  try dsimp only [putF, rd, Frame.get]
  refine r_op (o_call ?_)
  dsimp only [List.map, putF, rd, Frame.get]
  refine (index_rc rest).use ?_
  refine s_no ?_
  try dsimp only [putF, rd, Frame.get]
  refine r_op (o_mov (s_no ?_))
  try dsimp only [putF, rd, Frame.get]
  refine r_nil (c_keep ?_)
  try dsimp only [List.map]
  try dsimp only [putF, rd, Frame.get]
  repeat (with_reducible first | refine c_seq ?_ | refine on_n ?_ | refine c_skip ?_ | refine c_block ?_ | refine on_r ?_ | refine c_ret ?_ | refine c_exit ?_ | refine on_e ?_ | refine ob_e ?_ | refine ob_n ?_ | refine ob_r ?_ | refine ob_x rfl ?_)
  refine c_ops ?_
  refine r_op (o_mov (s_no ?_))
  try dsimp only [putF, rd, Frame.get]
  refine r_op (o_bin rfl (by first | trivial | (unfold inI64; omega)) (s_no ?_))
  try dsimp only [putF, rd, Frame.get]
  refine r_nil (c_keep ?_)
  try dsimp only [List.map]
  try dsimp only [putF, rd, Frame.get]
  repeat (with_reducible first | refine c_seq ?_ | refine on_n ?_ | refine c_skip ?_ | refine c_block ?_ | refine on_r ?_ | refine c_ret ?_ | refine c_exit ?_ | refine on_e ?_ | refine ob_e ?_ | refine ob_n ?_ | refine ob_r ?_ | refine ob_x rfl ?_)
  refine c_dec rfl (fun hi => ?_) (fun hi => ?_)
  · rw [if_pos hi] at hnext
    have hx : ((cutLines text).map lineA)[j]? = some (lineA rest) := by
      rw [List.getElem?_map, hcut, List.getElem?_append_right (by simp; omega), hnext]
      have : j - ((cutLines text).take j).length = 0 := by rw [List.length_take]; omega
      rw [this]; rfl
    repeat (with_reducible first | refine c_seq ?_ | refine on_n ?_ | refine c_skip ?_ | refine c_block ?_ | refine on_r ?_ | refine c_ret ?_ | refine c_exit ?_ | refine on_e ?_ | refine ob_e ?_ | refine ob_n ?_ | refine ob_r ?_ | refine ob_x rfl ?_)
    refine c_ops ?_
    refine r_op (o_mov (s_no ?_))
    try dsimp only [putF, rd, Frame.get]
    first | refine r_op (o_load hS rfl rfl rfl rfl (s_no ?_)) | refine r_op (o_load hS rfl rfl (by assumption) rfl (s_no ?_)) | refine r_op (o_loadR rfl rfl rfl (s_no ?_)) | refine r_op (o_loadR rfl (by assumption) rfl (s_no ?_))
    try dsimp only [putF, rd, Frame.get]
    refine r_op ?_
    refine o_yield rfl ?_; dsimp only [List.map, putF, rd, Frame.get]; refine (hY j _ _ hx hC).use hS fun r m' S h hS => ?_; obtain ⟨rfl, hC'⟩ := h
    refine s_no ?_
    try dsimp only [putF, rd, Frame.get]
    refine r_nil (c_keep ?_)
    try dsimp only [List.map]
    try dsimp only [putF, rd, Frame.get]
    repeat (with_reducible first | refine c_seq ?_ | refine on_n ?_ | refine c_skip ?_ | refine c_block ?_ | refine on_r ?_ | refine c_ret ?_ | refine c_exit ?_ | refine on_e ?_ | refine ob_e ?_ | refine ob_n ?_ | refine ob_r ?_ | refine ob_x rfl ?_)
    try dsimp only
    unfold strings_splitSeq_1_r
    refine w_nil ?_
    try dsimp only [retV, Frame.get]
    rw [hnext] at hlen
    refine ⟨_, ⟨m', Spl l1 v1 l2 v2 l3 v3 rest, ?_, rfl⟩, hS.eq (by ac_rfl)⟩
    rw [List.length_map, ← hlen]; exact hC'
  rw [if_neg hi] at hnext
  have hlt := idx_lt hi
  obtain ⟨i, he⟩ : ∃ i : Nat, Lib.indexByte rest 10 = (i : Int) := ⟨(Lib.indexByte rest 10).toNat, by omega⟩
  rw [he] at hnext hlt ⊢
  simp only [Int.toNat_natCast] at hnext hlt
  have hx : ((cutLines text).map lineA)[j]? = some (lineA (rest.take i)) := by
    rw [List.getElem?_map, hcut, List.getElem?_append_right (by simp; omega), hnext]
    have : j - ((cutLines text).take j).length = 0 := by rw [List.length_take]; omega
    rw [this]; rfl
  repeat (with_reducible first | refine c_seq ?_ | refine on_n ?_ | refine c_skip ?_ | refine c_block ?_ | refine on_r ?_ | refine c_ret ?_ | refine c_exit ?_ | refine on_e ?_ | refine ob_e ?_ | refine ob_n ?_ | refine ob_r ?_ | refine ob_x rfl ?_)
  refine c_ops ?_
  first | refine r_op (o_load hS rfl rfl rfl rfl (s_no ?_)) | refine r_op (o_load hS rfl rfl (by assumption) rfl (s_no ?_)) | refine r_op (o_loadR rfl rfl rfl (s_no ?_)) | refine r_op (o_loadR rfl (by assumption) rfl (s_no ?_))
  try dsimp only [putF, rd, Frame.get]
  refine r_op (o_mov (s_no ?_))
  try dsimp only [putF, rd, Frame.get]
  first | refine r_op (o_load hS rfl rfl rfl rfl (s_no ?_)) | refine r_op (o_load hS rfl rfl (by assumption) rfl (s_no ?_)) | refine r_op (o_loadR rfl rfl rfl (s_no ?_)) | refine r_op (o_loadR rfl (by assumption) rfl (s_no ?_))
  try dsimp only [putF, rd, Frame.get]
  refine r_op ?_
  refine o_bin rfl (by unfold inI64; omega) ?_; rw [show (i : Int) + 0 = (i : Int) by omega]
  refine s_no ?_
  try dsimp only [putF, rd, Frame.get]
  first | refine r_op (o_sliceS rfl ⟨_, rfl⟩ rfl (by omega) (by omega) (s_no ?_))
  try dsimp only [putF, rd, Frame.get]
  try simp only [Nat.zero_mul, Nat.mul_zero, Nat.mul_one, Nat.add_zero, Nat.zero_add, Nat.sub_zero, Nat.reduceAdd, Nat.reduceMul]
  refine r_op (o_mov (s_no ?_))
  try dsimp only [putF, rd, Frame.get]
  refine r_nil (c_keep ?_)
  try dsimp only [List.map]
  try dsimp only [putF, rd, Frame.get]
  rw [List.drop_zero]
  repeat (with_reducible first | refine c_seq ?_ | refine on_n ?_ | refine c_skip ?_ | refine c_block ?_ | refine on_r ?_ | refine c_ret ?_ | refine c_exit ?_ | refine on_e ?_ | refine ob_e ?_ | refine ob_n ?_ | refine ob_r ?_ | refine ob_x rfl ?_)
  refine c_ops ?_
  refine r_op (o_mov (s_no ?_))
  try dsimp only [putF, rd, Frame.get]
  refine r_op (o_mov (s_no ?_))
  try dsimp only [putF, rd, Frame.get]
  refine r_op ?_
  refine o_yield rfl ?_; dsimp only [List.map, putF, rd, Frame.get]; refine (hY j _ _ hx hC).use hS fun r m' S h hS => ?_; obtain ⟨rfl, hC'⟩ := h
  refine s_no ?_
  try dsimp only [putF, rd, Frame.get]
  refine r_op (o_not rfl (s_no ?_))
  try dsimp only [putF, rd, Frame.get]
  refine r_nil (c_keep ?_)
  try dsimp only [List.map]
  try dsimp only [putF, rd, Frame.get]
  repeat (with_reducible first | refine c_seq ?_ | refine on_n ?_ | refine c_skip ?_ | refine c_block ?_ | refine on_r ?_ | refine c_ret ?_ | refine c_exit ?_ | refine on_e ?_ | refine ob_e ?_ | refine ob_n ?_ | refine ob_r ?_ | refine ob_x rfl ?_)
  refine c_bool (c := !true) rfl (fun h => by cases h) (fun _ => ?_)
  repeat (with_reducible first | refine c_seq ?_ | refine on_n ?_ | refine c_skip ?_ | refine c_block ?_ | refine on_r ?_ | refine c_ret ?_ | refine c_exit ?_ | refine on_e ?_ | refine ob_e ?_ | refine ob_n ?_ | refine ob_r ?_ | refine ob_x rfl ?_)
  refine c_ops ?_
  first | refine r_op (o_load hS rfl rfl rfl rfl (s_no ?_)) | refine r_op (o_load hS rfl rfl (by assumption) rfl (s_no ?_)) | refine r_op (o_loadR rfl rfl rfl (s_no ?_)) | refine r_op (o_loadR rfl (by assumption) rfl (s_no ?_))
  try dsimp only [putF, rd, Frame.get]
  refine r_op (o_mov (s_no ?_))
  try dsimp only [putF, rd, Frame.get]
  first | refine r_op (o_load hS rfl rfl rfl rfl (s_no ?_)) | refine r_op (o_load hS rfl rfl (by assumption) rfl (s_no ?_)) | refine r_op (o_loadR rfl rfl rfl (s_no ?_)) | refine r_op (o_loadR rfl (by assumption) rfl (s_no ?_))
  try dsimp only [putF, rd, Frame.get]
  refine r_op (o_len rfl (s_no ?_))
  try dsimp only [putF, rd, Frame.get]
  refine r_op ?_
  refine o_bin rfl (by unfold inI64; simp; omega) ?_; rw [show (i : Int) + (([10] : Bytes).length : Int) = ((i + 1 : Nat) : Int) by simp]
  refine s_no ?_
  try dsimp only [putF, rd, Frame.get]
  first | refine r_op (o_sliceS rfl rfl ⟨_, rfl⟩ (by omega) (by omega) (s_no ?_))
  try dsimp only [putF, rd, Frame.get]
  try simp only [Nat.zero_mul, Nat.mul_zero, Nat.mul_one, Nat.add_zero, Nat.zero_add, Nat.sub_zero, Nat.reduceAdd, Nat.reduceMul]
  first | refine r_op (o_store hS rfl rfl rfl rfl (by simp) fun S hS => s_no ?_) | refine r_op (o_store hS rfl rfl rfl rfl (by assumption) fun S hS => s_no ?_)
  try dsimp only [putF, rd, Frame.get]
  try dsimp only [putF, rd, Frame.get, setCells, over] at hS
  refine r_nil (c_keep ?_)
  try dsimp only [List.map]
  try dsimp only [putF, rd, Frame.get]
  rw [List.take_of_length_le (Nat.le_refl _)] at hS
  repeat (with_reducible first | refine c_seq ?_ | refine on_n ?_ | refine c_skip ?_ | refine c_block ?_ | refine on_r ?_ | refine c_ret ?_ | refine c_exit ?_ | refine on_e ?_ | refine ob_e ?_ | refine ob_n ?_ | refine ob_r ?_ | refine ob_x rfl ?_)
  refine ⟨(rest.drop (i + 1)).length, by rw [List.length_drop]; omega, j + 1, rest.drop (i + 1), _, trivial, rfl, by rw [List.length_drop]; omega, ?_, ?_, hC', hS⟩
  · rw [hnext] at hcut
    conv => lhs; rw [hcut]
    rw [show (cutLines text).take (j + 1) = (cutLines text).take j ++ [rest.take i] from ?_]
    · simp
    · conv => lhs; rw [hcut]
      rw [List.take_append, List.take_of_length_le (by rw [List.length_take]; omega)]
      have : j + 1 - ((cutLines text).take j).length = 1 := by rw [List.length_take]; rw [hnext] at hlen; simp at hlen; omega
      rw [this]; rfl
  · rw [hnext] at hlen; simp at hlen; omega
end Go.Proofs.YtakkifkpihdcnaaDoor.P
