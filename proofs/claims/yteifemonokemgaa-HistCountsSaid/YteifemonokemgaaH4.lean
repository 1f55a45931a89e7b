/- The rule for a history, walked over parts of memory. Conditions: none. -/
import Derived.Test.YteifemonokemgaaGR
import Derived.Test.YteifemonokemgaaH3
set_option linter.unusedVariables false
set_option linter.unusedSimpArgs false
set_option maxRecDepth 100000
namespace Go.Proofs.Yteifemonokemgaa.R
open Go.Vc Go.Fu
open H (encD encD_len encD_at deed_1 deed_1' deed_2 deed_3 deed_3' deed_4 deed_4' deed_5 play_small play_big)
theorem ck_use (hC : Con Try.prog f_ref_EditFault ref_EditFault_ct) {size : Int} {e : Edit} {S : Store} {K : AVal → Store → Prop} (hs : inI64 size ∧ editFits e) (h : K (.int .i64 (editFault size e)) S) : ACalls Try.prog f_ref_EditFault [.int .i64 size, .agg [.int .i64 e.1, .int .i64 e.2.1, .str e.2.2]] S K := hC.plain (size, e) hs rfl h
theorem made_use (hC : Con Try.prog f_ref_editMade ref_editMade_ct) {s : Bytes} {e : Edit} {S : Store} {K : AVal → Store → Prop} (hs : editMay s.length e) (h : K (.str (editMade s e)) S) : ACalls Try.prog f_ref_editMade [.str s, .agg [.int .i64 e.1, .int .i64 e.2.1, .str e.2.2]] S K := hC.plain (s, e) hs rfl h
/-- The line of texts in a row. -/
def LnR (cs : List AVal) (off : Nat) (L : List Bytes) : Prop := off + L.length ≤ cs.length ∧ subL cs off L.length = L.map .str
theorem LnR.get {cs : List AVal} {off : Nat} {L : List Bytes} (h : LnR cs off L) {i : Nat} {t : Bytes} (hi : L[i]? = some t) : takeN 1 (cs.drop (off + i)) = some [.str t] := by
  have hlt := (List.getElem?_eq_some_iff.1 hi).1
  have h1 := h.1
  have e : cs[off + i]? = some (.str t) := by
    have : (subL cs off L.length)[i]? = some (.str t) := by rw [h.2, List.getElem?_map, hi]; rfl
    unfold subL at this
    rw [List.getElem?_take, if_pos hlt, List.getElem?_drop] at this
    exact this
  rw [takeN_of_le _ _ (by rw [List.length_drop]; omega)]
  have : cs.drop (off + i) = .str t :: cs.drop (off + i + 1) := by
    obtain ⟨hl, he⟩ := List.getElem?_eq_some_iff.1 e
    rw [List.drop_eq_getElem_cons hl, he]
  rw [this]; rfl
theorem LnR.head {cs : List AVal} {off : Nat} {L : List Bytes} (h : LnR cs off L) {n : Nat} (hn : n ≤ L.length) : LnR cs off (L.take n) := by
  have hl : (L.take n).length = n := by rw [List.length_take]; omega
  refine ⟨by rw [hl]; have := h.1; omega, ?_⟩
  rw [hl, List.map_take, ← h.2]
  unfold subL
  rw [List.take_take, Nat.min_eq_left hn]
theorem LnR.tail {cs : List AVal} {off : Nat} {L : List Bytes} (h : LnR cs off L) {n : Nat} (hn : n ≤ L.length) : LnR cs (off + n) (L.drop n) := by
  have h1 := h.1
  refine ⟨by rw [List.length_drop]; omega, ?_⟩
  rw [List.map_drop, ← h.2, List.length_drop]
  unfold subL
  rw [List.drop_take, List.drop_drop]
theorem LnR.set {cs : List AVal} {off : Nat} {L : List Bytes} {t : Bytes} (h : LnR cs off (L ++ [t])) (t' : Bytes) : LnR (setCells cs (off + L.length) [.str t']) off (L ++ [t']) := by
  have h1 := h.1
  simp only [List.length_append, List.length_singleton] at h1
  have hl : (setCells cs (off + L.length) [.str t']).length = cs.length := setCells_length _ _ _
  refine ⟨by rw [hl]; simp; omega, ?_⟩
  apply List.ext_getElem?
  intro i
  have g : ∀ j, (setCells cs (off + L.length) [AVal.str t'])[j]? = if off + L.length ≤ j ∧ j < off + L.length + 1 then [AVal.str t'][j - (off + L.length)]? else cs[j]? := fun j => setCells_get cs _ _ j (by simp; omega)
  have e := h.2
  unfold subL at *
  rw [List.getElem?_take, List.getElem?_map]
  simp only [List.length_append, List.length_singleton] at e ⊢
  by_cases hi : i < L.length + 1
  · rw [if_pos hi, List.getElem?_drop, g]
    by_cases hi2 : i = L.length
    · subst hi2
      rw [if_pos (by omega), Nat.sub_self, List.getElem?_append_right (Nat.le_refl _), Nat.sub_self]; rfl
    · rw [if_neg (by omega), List.getElem?_append_left (by omega)]
      have := congrArg (fun l => l[i]?) e
      simp only [List.getElem?_take, if_pos hi, List.getElem?_drop, List.getElem?_map, List.getElem?_append_left (show i < L.length by omega)] at this
      exact this
  · rw [if_neg hi, List.getElem?_eq_none (by simp; omega)]; rfl
theorem line_text (h : HistS) : (lineOf h)[h.undo.length]? = some h.text := by
  unfold lineOf
  rw [List.getElem?_append_right (by rw [pastL_len]; exact Nat.le_refl _), pastL_len, Nat.sub_self]; rfl
theorem line_take (h : HistS) : (lineOf h).take (h.undo.length + 1) = pastL h ++ [h.text] := by
  unfold lineOf
  rw [List.take_append, pastL_len, List.take_of_length_le (by rw [pastL_len]; omega), show h.undo.length + 1 - h.undo.length = 1 by omega]; rfl
/-- The line behind an edit. -/
theorem make_open {n : Nat} {h : HistS} {x : Edit} (i : HInv n h) (hx : editMay h.text.length x) (ho : h.opn = true) : lineOf (hMake h x) = pastL h ++ [editMade h.text x] ∧ (hMake h x).undo.length = h.undo.length := by
  have := (make_past i hx).1 ho
  refine ⟨?_, this.2.2⟩
  rw [line_make i hx, this.2.1]
theorem make_shut {n : Nat} {h : HistS} {x : Edit} (i : HInv n h) (hx : editMay h.text.length x) (ho : h.opn = false) :
    (20 < h.undo.length + 1 → lineOf (hMake h x) = (pastL h ++ [h.text] ++ [editMade h.text x]).drop 1 ∧ (hMake h x).undo.length = h.undo.length) ∧ (¬ 20 < h.undo.length + 1 → lineOf (hMake h x) = pastL h ++ [h.text] ++ [editMade h.text x] ∧ (hMake h x).undo.length = h.undo.length + 1) := by
  have := (make_past i hx).2 ho
  constructor
  · intro hc
    rw [if_pos hc, if_pos hc] at this
    refine ⟨?_, this.2.2⟩
    rw [line_make i hx, this.2.1]
    exact (List.drop_append_of_le_length (by simp)).symm
  · intro hc
    rw [if_neg hc, if_neg hc] at this
    refine ⟨?_, this.2.2⟩
    rw [line_make i hx, this.2.1]

theorem ref_walk (hCk : Con Try.prog f_ref_EditFault ref_EditFault_ct) (hMd : Con Try.prog f_ref_editMade ref_editMade_ct) (s : Bytes) (l : List Deed) (hp : histPre s l) :
    HC Try.prog f_ref_HistPlayed [.str s, .ros l.length (l.flatMap encD)] HM.nil fun r m' => (histBig s l ∧ r = .tup [.nils, .nils, .int .i64 0, .int .i64 0, .int .i64 1]) ∨ (¬ histBig s l ∧ ∃ p1 v1 p2 v2 X, r = .tup [.sl p1 v1 0 l.length, .sl p2 v2 0 l.length, .int .i64 (hEnd (hNew s) l).undo.length, .int .i64 (hEnd (hNew s) l).redo.length, .int .i64 0] ∧
      m' = pt p1 (.row v1 1 ((hTexts (hNew s) l).map .str)) + (pt p2 (.row v2 1 ((hCodes (hNew s) l).map (.int .i64))) + X)) := by
  obtain ⟨hs, hl, hd⟩ := hp
  have hs : s.length ≤ 140737488351232 := hs
  have hl : l.length ≤ 140737488351232 := hl
  intro S mf hS
  have hS := hS.right
  refine ref_HistPlayed_ok.out rfl ?_ (by simp [ref_HistPlayed_fi])
  unfold vcFun ref_HistPlayed_fi
  dsimp only
  unfold ref_HistPlayed_c
  dsimp only [argF]
  repeat (with_reducible first | refine c_seq ?_ | refine on_n ?_ | refine c_skip ?_ | refine c_block ?_ | refine on_r ?_ | refine c_ret ?_ | refine c_exit ?_ | refine on_e ?_ | refine ob_e ?_ | refine ob_n ?_ | refine ob_r ?_ | refine ob_x rfl ?_)
  refine c_ops ?_
  refine r_op (o_mov (s_no ?_))
  try dsimp only [putF, rd, Frame.get]
  refine r_op (o_mov (s_no ?_))
  try dsimp only [putF, rd, Frame.get]
  refine r_op (o_mov (s_no ?_))
  try dsimp only [putF, rd, Frame.get]
  refine r_op (o_mov (s_no ?_))
  try dsimp only [putF, rd, Frame.get]
  refine r_op (o_mov (s_no ?_))
  try dsimp only [putF, rd, Frame.get]
  refine r_nil (c_keep ?_)
  try dsimp only [List.map]
  try dsimp only [putF, rd, Frame.get]
  repeat (with_reducible first | refine c_seq ?_ | refine on_n ?_ | refine c_skip ?_ | refine c_block ?_ | refine on_r ?_ | refine c_ret ?_ | refine c_exit ?_ | refine on_e ?_ | refine ob_e ?_ | refine ob_n ?_ | refine ob_r ?_ | refine ob_x rfl ?_)
  refine c_ops ?_
  refine r_op (o_mov (s_no ?_))
  try dsimp only [putF, rd, Frame.get]
  refine r_op (o_len rfl (s_no ?_))
  try dsimp only [putF, rd, Frame.get]
  refine r_op (o_bin rfl (by first | trivial | (unfold inI64; omega)) (s_no ?_))
  try dsimp only [putF, rd, Frame.get]
  first | refine r_op (o_mov (s_dec (fun hg => ?_) (fun hg => ?_))) | refine r_op (o_mov (s_ndec (fun hg => ?_) (fun hg => ?_))) | refine r_op (o_mov (s_bool (fun hg => ?_) (fun hg => ?_)))
  all_goals try dsimp only [putF, rd, Frame.get]
  all_goals (first | refine r_st rfl ?_ | refine r_sf rfl ?_ | refine r_su rfl ?_ | refine r_ff rfl (o_mov (s_no ?_)))
  all_goals (try dsimp only [putF, rd, Frame.get])
  all_goals (first | refine r_st rfl ?_ | refine r_sf rfl ?_ | refine r_su rfl ?_ | refine r_ff rfl (o_len rfl (s_no ?_)))
  all_goals (try dsimp only [putF, rd, Frame.get])
  all_goals (first | refine r_st rfl ?_ | refine r_sf rfl ?_ | refine r_su rfl ?_ | refine r_ff rfl (o_bin rfl (by first | trivial | (unfold inI64; omega)) (s_no ?_)))
  all_goals (try dsimp only [putF, rd, Frame.get])
  all_goals (first | refine r_op (o_pickT rfl (s_no ?_)) | refine r_op (o_pickF rfl (s_no ?_)))
  all_goals (try dsimp only [putF, rd, Frame.get])
  all_goals refine r_nil (c_keep ?_)
  all_goals try dsimp only [List.map]
  all_goals try dsimp only [putF, rd, Frame.get]
  · repeat (with_reducible first | refine c_seq ?_ | refine on_n ?_ | refine c_skip ?_ | refine c_block ?_ | refine on_r ?_ | refine c_ret ?_ | refine c_exit ?_ | refine on_e ?_ | refine ob_e ?_ | refine ob_n ?_ | refine ob_r ?_ | refine ob_x rfl ?_)
    refine c_bool rfl (fun _ => ?_) (fun hb => by cases hb)
    repeat (with_reducible first | refine c_seq ?_ | refine on_n ?_ | refine c_skip ?_ | refine c_block ?_ | refine on_r ?_ | refine c_ret ?_ | refine c_exit ?_ | refine on_e ?_ | refine ob_e ?_ | refine ob_n ?_ | refine ob_r ?_ | refine ob_x rfl ?_)
    refine c_ops ?_
    refine r_op (o_mov (s_no ?_))
    try dsimp only [putF, rd, Frame.get]
    refine r_op (o_mov (s_no ?_))
    try dsimp only [putF, rd, Frame.get]
    refine r_op (o_mov (s_no ?_))
    try dsimp only [putF, rd, Frame.get]
    refine r_op (o_mov (s_no ?_))
    try dsimp only [putF, rd, Frame.get]
    refine r_op (o_mov (s_no ?_))
    try dsimp only [putF, rd, Frame.get]
    refine r_nil (c_keep ?_)
    try dsimp only [List.map]
    try dsimp only [putF, rd, Frame.get]
    repeat (with_reducible first | refine c_seq ?_ | refine on_n ?_ | refine c_skip ?_ | refine c_block ?_ | refine on_r ?_ | refine c_ret ?_ | refine c_exit ?_ | refine on_e ?_ | refine ob_e ?_ | refine ob_n ?_ | refine ob_r ?_ | refine ob_x rfl ?_)
    dsimp only
    unfold ref_HistPlayed_r
    refine w_tmp (w_tmp (w_tmp (w_tmp (w_tmp (w_nil ?_)))))
    dsimp only [retV, Frame.get]
    exact ⟨HM.nil, .inl ⟨.inl (by omega), rfl⟩, hS.eq (by ac_rfl)⟩
  repeat (with_reducible first | refine c_seq ?_ | refine on_n ?_ | refine c_skip ?_ | refine c_block ?_ | refine on_r ?_ | refine c_ret ?_ | refine c_exit ?_ | refine on_e ?_ | refine ob_e ?_ | refine ob_n ?_ | refine ob_r ?_ | refine ob_x rfl ?_)
  refine c_dec rfl (fun hc => ?_) (fun hc => ?_)
  · repeat (with_reducible first | refine c_seq ?_ | refine on_n ?_ | refine c_skip ?_ | refine c_block ?_ | refine on_r ?_ | refine c_ret ?_ | refine c_exit ?_ | refine on_e ?_ | refine ob_e ?_ | refine ob_n ?_ | refine ob_r ?_ | refine ob_x rfl ?_)
    refine c_ops ?_
    refine r_op (o_mov (s_no ?_))
    try dsimp only [putF, rd, Frame.get]
    refine r_op (o_mov (s_no ?_))
    try dsimp only [putF, rd, Frame.get]
    refine r_op (o_mov (s_no ?_))
    try dsimp only [putF, rd, Frame.get]
    refine r_op (o_mov (s_no ?_))
    try dsimp only [putF, rd, Frame.get]
    refine r_op (o_mov (s_no ?_))
    try dsimp only [putF, rd, Frame.get]
    refine r_nil (c_keep ?_)
    try dsimp only [List.map]
    try dsimp only [putF, rd, Frame.get]
    repeat (with_reducible first | refine c_seq ?_ | refine on_n ?_ | refine c_skip ?_ | refine c_block ?_ | refine on_r ?_ | refine c_ret ?_ | refine c_exit ?_ | refine on_e ?_ | refine ob_e ?_ | refine ob_n ?_ | refine ob_r ?_ | refine ob_x rfl ?_)
    dsimp only
    unfold ref_HistPlayed_r
    refine w_tmp (w_tmp (w_tmp (w_tmp (w_tmp (w_nil ?_)))))
    dsimp only [retV, Frame.get]
    exact ⟨HM.nil, .inl ⟨.inr (by omega), rfl⟩, hS.eq (by ac_rfl)⟩
  have hbig : ¬ histBig s l := by unfold histBig; omega
  repeat (with_reducible first | refine c_seq ?_ | refine on_n ?_ | refine c_skip ?_ | refine c_block ?_ | refine on_r ?_ | refine c_ret ?_ | refine c_exit ?_ | refine on_e ?_ | refine ob_e ?_ | refine ob_n ?_ | refine ob_r ?_ | refine ob_x rfl ?_)
  refine c_ops ?_
  refine r_op (o_mov (s_no ?_))
  try dsimp only [putF, rd, Frame.get]
  refine r_op (o_bsliceW hS rfl fun v28 l28 S hS => s_no ?_)
  try dsimp only [putF, rd, Frame.get, setCells, over]
  try dsimp only [putF, rd, Frame.get, setCells, over] at hS
  refine r_op (o_mov (s_no ?_))
  try dsimp only [putF, rd, Frame.get]
  refine r_nil (c_keep ?_)
  try dsimp only [List.map]
  try dsimp only [putF, rd, Frame.get]
  repeat (with_reducible first | refine c_seq ?_ | refine on_n ?_ | refine c_skip ?_ | refine c_block ?_ | refine on_r ?_ | refine c_ret ?_ | refine c_exit ?_ | refine on_e ?_ | refine ob_e ?_ | refine ob_n ?_ | refine ob_r ?_ | refine ob_x rfl ?_)
  refine c_ops ?_
  refine r_op (o_mov (s_no ?_))
  try dsimp only [putF, rd, Frame.get]
  refine r_nil (c_keep ?_)
  try dsimp only [List.map]
  try dsimp only [putF, rd, Frame.get]
  repeat (with_reducible first | refine c_seq ?_ | refine on_n ?_ | refine c_skip ?_ | refine c_block ?_ | refine on_r ?_ | refine c_ret ?_ | refine c_exit ?_ | refine on_e ?_ | refine ob_e ?_ | refine ob_n ?_ | refine ob_r ?_ | refine ob_x rfl ?_)
  refine c_ops ?_
  refine r_op (o_mov (s_no ?_))
  try dsimp only [putF, rd, Frame.get]
  refine r_nil (c_keep ?_)
  try dsimp only [List.map]
  try dsimp only [putF, rd, Frame.get]
  repeat (with_reducible first | refine c_seq ?_ | refine on_n ?_ | refine c_skip ?_ | refine c_block ?_ | refine on_r ?_ | refine c_ret ?_ | refine c_exit ?_ | refine on_e ?_ | refine ob_e ?_ | refine ob_n ?_ | refine ob_r ?_ | refine ob_x rfl ?_)
  refine c_ops ?_
  refine r_op (o_newnil hS fun v12 l12 S hS => s_no ?_)
  try dsimp only [putF, rd, Frame.get]
  refine r_nil (c_keep ?_)
  try dsimp only [List.map]
  try dsimp only [putF, rd, Frame.get]
  repeat (with_reducible first | refine c_seq ?_ | refine on_n ?_ | refine c_skip ?_ | refine c_block ?_ | refine on_r ?_ | refine c_ret ?_ | refine c_exit ?_ | refine on_e ?_ | refine ob_e ?_ | refine ob_n ?_ | refine ob_r ?_ | refine ob_x rfl ?_)
  refine c_ops ?_
  refine r_op (o_newnil hS fun v13 l13 S hS => s_no ?_)
  try dsimp only [putF, rd, Frame.get]
  refine r_nil (c_keep ?_)
  try dsimp only [List.map]
  try dsimp only [putF, rd, Frame.get]
  repeat (with_reducible first | refine c_seq ?_ | refine on_n ?_ | refine c_skip ?_ | refine c_block ?_ | refine on_r ?_ | refine c_ret ?_ | refine c_exit ?_ | refine on_e ?_ | refine ob_e ?_ | refine ob_n ?_ | refine ob_r ?_ | refine ob_x rfl ?_)
  refine c_ops ?_
  refine r_op (o_mov (s_no ?_))
  try dsimp only [putF, rd, Frame.get]
  refine r_op (o_len rfl (s_no ?_))
  try dsimp only [putF, rd, Frame.get]
  refine r_op (o_mov (s_no ?_))
  try dsimp only [putF, rd, Frame.get]
  refine r_nil (c_keep ?_)
  try dsimp only [List.map]
  try dsimp only [putF, rd, Frame.get]
  repeat (with_reducible first | refine c_seq ?_ | refine on_n ?_ | refine c_skip ?_ | refine c_block ?_ | refine on_r ?_ | refine c_ret ?_ | refine c_exit ?_ | refine on_e ?_ | refine ob_e ?_ | refine ob_n ?_ | refine ob_r ?_ | refine ob_x rfl ?_)
  refine c_loop (fun n xs S => ∃ (j p v off : Nat) (cs : List AVal) (p1 v1 p2 v2 : Nat) (X : HM), xs = [.sl p v off (lineOf (hEnd (hNew s) (l.take j))).length, .int .i64 (hEnd (hNew s) (l.take j)).undo.length, .bool (hEnd (hNew s) (l.take j)).opn, .sl p1 v1 0 j, .sl p2 v2 0 j, .int .i64 (j : Int)] ∧ j ≤ l.length ∧ n = l.length - j ∧
    LnR cs off (lineOf (hEnd (hNew s) (l.take j))) ∧ Has S (pt p1 (.row v1 1 ((hTexts (hNew s) (l.take j)).map .str)) + (pt p2 (.row v2 1 ((hCodes (hNew s) (l.take j)).map (.int .i64))) + (pt p (.row v 1 cs) + (X + mf))))) l.length ⟨0, l28, v28, 0, [.str s], l12, v12, l13, v13, HM.nil, rfl, Nat.zero_le _, rfl, ⟨Nat.le_refl _, rfl⟩, hS.eq (by show _ = pt l12 (.row v12 1 []) + (pt l13 (.row v13 1 []) + (pt l28 (.row v28 1 [.str s]) + (HM.nil + mf))); ac_rfl)⟩ ?_
  clear hS
  rintro n xs S hl' ⟨j, p, v, off, cs, p1, v1, p2, v2, X, rfl, hj, rfl, hln, hS⟩
  dsimp only [zipF, List.map, Frame.get]
  repeat (with_reducible first | refine c_seq ?_ | refine on_n ?_ | refine c_skip ?_ | refine c_block ?_ | refine on_r ?_ | refine c_ret ?_ | refine c_exit ?_ | refine on_e ?_ | refine ob_e ?_ | refine ob_n ?_ | refine ob_r ?_ | refine ob_x rfl ?_)
  refine c_ops ?_
  refine r_op (o_bin rfl (by first | trivial | (unfold inI64; omega)) (s_no ?_))
  try dsimp only [putF, rd, Frame.get]
  refine r_nil (c_keep ?_)
  try dsimp only [List.map]
  try dsimp only [putF, rd, Frame.get]
  repeat (with_reducible first | refine c_seq ?_ | refine on_n ?_ | refine c_skip ?_ | refine c_block ?_ | refine on_r ?_ | refine c_ret ?_ | refine c_exit ?_ | refine on_e ?_ | refine ob_e ?_ | refine ob_n ?_ | refine ob_r ?_ | refine ob_x rfl ?_)
  refine c_dec rfl (fun hlt => ?_) (fun hlt => ?_)
  · obtain ⟨d, hdj⟩ : ∃ d, l[j]? = some d := ⟨_, List.getElem?_eq_getElem (by omega)⟩
    have ht := encD_at hdj
    have e1 : l.take (j + 1) = l.take j ++ [d] := by rw [List.take_add_one, hdj]; rfl
    have ic := HInv.run (s := s) (by unfold histBig at hbig; omega) (l.take j)
    have lt : (l.take j).length = j := by rw [List.length_take]; omega
    rw [lt] at ic
    have hfit : editFits d.2 := hd d (List.mem_of_getElem? hdj)
    have h80 : l.length ≤ 80 := by unfold histBig at hbig; omega
    have ll := lineOf_len (hEnd (hNew s) (l.take j))
    have ia := ic.all
    have il := ic.len
    have htx := hln.get (line_text _)
    have nx : (hTexts (hNew s) (l.take (j + 1))) = hTexts (hNew s) (l.take j) ++ [(hDeed (hEnd (hNew s) (l.take j)) d).1.text] := by rw [e1, hTexts_snoc, hEnd_snoc]
    have nc : (hCodes (hNew s) (l.take (j + 1))) = hCodes (hNew s) (l.take j) ++ [(hDeed (hEnd (hNew s) (l.take j)) d).2] := by rw [e1, hCodes_snoc]
    have ne : hEnd (hNew s) (l.take (j + 1)) = (hDeed (hEnd (hNew s) (l.take j)) d).1 := by rw [e1, hEnd_snoc]
    have tl := hTexts_len (l.take j) (hNew s)
    have cl := hCodes_len (l.take j) (hNew s)
    rw [lt] at tl cl
    generalize hEnd (hNew s) (l.take j) = h at *
    generalize hTexts (hNew s) (l.take j) = T at *
    generalize hCodes (hNew s) (l.take j) = C at *
    obtain ⟨kd, x⟩ := d
    repeat (with_reducible first | refine c_seq ?_ | refine on_n ?_ | refine c_skip ?_ | refine c_block ?_ | refine on_r ?_ | refine c_ret ?_ | refine c_exit ?_ | refine on_e ?_ | refine ob_e ?_ | refine ob_n ?_ | refine ob_r ?_ | refine ob_x rfl ?_)
    refine c_ops ?_
    first | refine r_op (o_iaddr hS rfl rfl rfl (by omega) (s_no ?_)) | refine r_op (o_iaddrR rfl rfl (by omega) (by assumption) (s_no ?_)) | refine r_op (o_iaddrA rfl rfl (by omega) (s_no ?_)) | refine r_op (o_iaddrAR rfl rfl (by omega) (s_no ?_))
    try dsimp only [putF, rd, Frame.get]
    try simp only [Nat.zero_mul, Nat.mul_zero, Nat.mul_one, Nat.add_zero, Nat.zero_add, Nat.sub_zero, Nat.reduceAdd, Nat.reduceMul]
    first | refine r_op (o_load hS rfl rfl rfl rfl (s_no ?_)) | refine r_op (o_load hS rfl rfl (by assumption) rfl (s_no ?_)) | refine r_op (o_loadR rfl rfl rfl (s_no ?_)) | refine r_op (o_loadR rfl (by assumption) rfl (s_no ?_))
    try dsimp only [putF, rd, Frame.get]
    refine r_op (o_alloc hS fun v15 l15 S hS => s_no ?_)
    try dsimp only [putF, rd, Frame.get]
    first | refine r_op (o_store hS rfl rfl rfl rfl (by simp) fun S hS => s_no ?_) | refine r_op (o_store hS rfl rfl rfl rfl (by assumption) fun S hS => s_no ?_)
    try dsimp only [putF, rd, Frame.get]
    try dsimp only [putF, rd, Frame.get, setCells, over] at hS
    refine r_nil (c_keep ?_)
    try dsimp only [List.map]
    try dsimp only [putF, rd, Frame.get]
    repeat (with_reducible first | refine c_seq ?_ | refine on_n ?_ | refine c_skip ?_ | refine c_block ?_ | refine on_r ?_ | refine c_ret ?_ | refine c_exit ?_ | refine on_e ?_ | refine ob_e ?_ | refine ob_n ?_ | refine ob_r ?_ | refine ob_x rfl ?_)
    refine c_ops ?_
    refine r_op (o_mov (s_no ?_))
    try dsimp only [putF, rd, Frame.get]
    refine r_nil (c_keep ?_)
    try dsimp only [List.map]
    try dsimp only [putF, rd, Frame.get]
    repeat (with_reducible first | refine c_seq ?_ | refine on_n ?_ | refine c_skip ?_ | refine c_block ?_ | refine on_r ?_ | refine c_ret ?_ | refine c_exit ?_ | refine on_e ?_ | refine ob_e ?_ | refine ob_n ?_ | refine ob_r ?_ | refine ob_x rfl ?_)
    refine c_ops ?_
    refine r_op (o_mov (s_no ?_))
    try dsimp only [putF, rd, Frame.get]
    refine r_op (o_mov (s_no ?_))
    try dsimp only [putF, rd, Frame.get]
    first | refine r_op (o_iaddr hS rfl rfl rfl (by omega) (s_no ?_)) | refine r_op (o_iaddrR rfl rfl (by omega) (by assumption) (s_no ?_)) | refine r_op (o_iaddrA rfl rfl (by omega) (s_no ?_)) | refine r_op (o_iaddrAR rfl rfl (by omega) (s_no ?_))
    try dsimp only [putF, rd, Frame.get]
    try simp only [Nat.zero_mul, Nat.mul_zero, Nat.mul_one, Nat.add_zero, Nat.zero_add, Nat.sub_zero, Nat.reduceAdd, Nat.reduceMul]
    first | refine r_op (o_load hS rfl rfl rfl rfl (s_no ?_)) | refine r_op (o_load hS rfl rfl (by assumption) rfl (s_no ?_)) | refine r_op (o_loadR rfl rfl rfl (s_no ?_)) | refine r_op (o_loadR rfl (by assumption) rfl (s_no ?_))
    try dsimp only [putF, rd, Frame.get]
    refine r_op (o_mov (s_no ?_))
    try dsimp only [putF, rd, Frame.get]
    refine r_nil (c_keep ?_)
    try dsimp only [List.map]
    try dsimp only [putF, rd, Frame.get]
    repeat (with_reducible first | refine c_seq ?_ | refine on_n ?_ | refine c_skip ?_ | refine c_block ?_ | refine on_r ?_ | refine c_ret ?_ | refine c_exit ?_ | refine on_e ?_ | refine ob_e ?_ | refine ob_n ?_ | refine ob_r ?_ | refine ob_x rfl ?_)
    refine c_join fun K hK => ?_
    have rest : ∀ (h' : HistS) (c : Int) (p v off : Nat) (cs : List AVal) (X : HM) (S : Store), hDeed h (kd, x) = (h', c) → LnR cs off (lineOf h') → Has S (pt p1 (.row v1 1 (T.map .str)) + (pt p2 (.row v2 1 (C.map (.int .i64))) + (pt p (.row v 1 cs) + (X + mf)))) → K [.sl p v off (lineOf h').length, .int .i64 h'.undo.length, .bool h'.opn, .int .i64 c] S := by
      intro h' c p v off cs X S hde hln hS
      refine hK _ _ rfl ?_
      have ll' := lineOf_len h'
      have htx := hln.get (line_text _)
      dsimp only [zipF, List.map, Frame.get]
      repeat (with_reducible first | refine c_seq ?_ | refine on_n ?_ | refine c_skip ?_ | refine c_block ?_ | refine on_r ?_ | refine c_ret ?_ | refine c_exit ?_ | refine on_e ?_ | refine ob_e ?_ | refine ob_n ?_ | refine ob_r ?_ | refine ob_x rfl ?_)
      refine c_ops ?_
      refine r_op (o_mov (s_no ?_))
      try dsimp only [putF, rd, Frame.get]
      refine r_op (o_mov (s_no ?_))
      try dsimp only [putF, rd, Frame.get]
      refine r_op (o_mov (s_no ?_))
      try dsimp only [putF, rd, Frame.get]
      first | refine r_op (o_iaddr hS rfl rfl rfl (by omega) (s_no ?_)) | refine r_op (o_iaddrR rfl rfl (by omega) (by assumption) (s_no ?_)) | refine r_op (o_iaddrA rfl rfl (by omega) (s_no ?_)) | refine r_op (o_iaddrAR rfl rfl (by omega) (s_no ?_))
      try dsimp only [putF, rd, Frame.get]
      try simp only [Nat.zero_mul, Nat.mul_zero, Nat.mul_one, Nat.add_zero, Nat.zero_add, Nat.sub_zero, Nat.reduceAdd, Nat.reduceMul]
      refine r_op ?_
      refine o_load hS rfl rfl htx rfl ?_
      refine s_no ?_
      try dsimp only [putF, rd, Frame.get]
      refine r_op (o_bsliceR rfl (s_no ?_))
      try dsimp only [putF, rd, Frame.get, setCells, over]
      try dsimp only [putF, rd, Frame.get, setCells, over] at hS
      refine r_op ?_
      refine o_appendX hS rfl (SrcOf.one rfl) rfl (by simp [tl]) (by omega) fun v1' S hS => ?_
      refine s_no ?_
      try dsimp only [putF, rd, Frame.get]
      refine r_op (o_mov (s_no ?_))
      try dsimp only [putF, rd, Frame.get]
      refine r_nil (c_keep ?_)
      try dsimp only [List.map]
      try dsimp only [putF, rd, Frame.get]
      repeat (with_reducible first | refine c_seq ?_ | refine on_n ?_ | refine c_skip ?_ | refine c_block ?_ | refine on_r ?_ | refine c_ret ?_ | refine c_exit ?_ | refine on_e ?_ | refine ob_e ?_ | refine ob_n ?_ | refine ob_r ?_ | refine ob_x rfl ?_)
      refine c_ops ?_
      refine r_op (o_mov (s_no ?_))
      try dsimp only [putF, rd, Frame.get]
      refine r_op (o_mov (s_no ?_))
      try dsimp only [putF, rd, Frame.get]
      refine r_op (o_bsliceR rfl (s_no ?_))
      try dsimp only [putF, rd, Frame.get, setCells, over]
      try dsimp only [putF, rd, Frame.get, setCells, over] at hS
      refine r_op ?_
      refine o_appendX hS rfl (SrcOf.one rfl) rfl (by simp [cl]) (by omega) fun v2' S hS => ?_
      refine s_no ?_
      try dsimp only [putF, rd, Frame.get]
      refine r_op (o_mov (s_no ?_))
      try dsimp only [putF, rd, Frame.get]
      refine r_nil (c_keep ?_)
      try dsimp only [List.map]
      try dsimp only [putF, rd, Frame.get]
      repeat (with_reducible first | refine c_seq ?_ | refine on_n ?_ | refine c_skip ?_ | refine c_block ?_ | refine on_r ?_ | refine c_ret ?_ | refine c_exit ?_ | refine on_e ?_ | refine ob_e ?_ | refine ob_n ?_ | refine ob_r ?_ | refine ob_x rfl ?_)
      refine c_ops ?_
      refine r_op (o_bin rfl (by first | trivial | (unfold inI64; omega)) (s_no ?_))
      try dsimp only [putF, rd, Frame.get]
      refine r_op (o_mov (s_no ?_))
      try dsimp only [putF, rd, Frame.get]
      refine r_nil (c_keep ?_)
      try dsimp only [List.map]
      try dsimp only [putF, rd, Frame.get]
      repeat (with_reducible first | refine c_seq ?_ | refine on_n ?_ | refine c_skip ?_ | refine c_block ?_ | refine on_r ?_ | refine c_ret ?_ | refine c_exit ?_ | refine on_e ?_ | refine ob_e ?_ | refine ob_n ?_ | refine ob_r ?_ | refine ob_x rfl ?_)
      rw [hde] at nx nc ne
      refine ⟨l.length - (j + 1), by omega, j + 1, p, v, off, cs, p1, v1', p2, v2', X, ?_, by omega, rfl, ?_, ?_⟩
      · rw [ne]; rfl
      · rw [ne]; exact hln
      · rw [nx, nc, List.map_append, List.map_append]; exact hS
    repeat (with_reducible first | refine c_seq ?_ | refine on_n ?_ | refine c_skip ?_ | refine c_block ?_ | refine on_r ?_ | refine c_ret ?_ | refine c_exit ?_ | refine on_e ?_ | refine ob_e ?_ | refine ob_n ?_ | refine ob_r ?_ | refine ob_x rfl ?_)
    refine c_ops ?_
    first | refine r_op (o_faddr rfl (s_no ?_)) | refine r_op (o_faddrR rfl (s_no ?_))
    try dsimp only [putF, rd, Frame.get]
    try simp only [Nat.zero_mul, Nat.mul_zero, Nat.mul_one, Nat.add_zero, Nat.zero_add, Nat.sub_zero, Nat.reduceAdd, Nat.reduceMul]
    first | refine r_op (o_load hS rfl rfl rfl rfl (s_no ?_)) | refine r_op (o_load hS rfl rfl (by assumption) rfl (s_no ?_)) | refine r_op (o_loadR rfl rfl rfl (s_no ?_)) | refine r_op (o_loadR rfl (by assumption) rfl (s_no ?_))
    try dsimp only [putF, rd, Frame.get]
    refine r_nil (c_keep ?_)
    try dsimp only [List.map]
    try dsimp only [putF, rd, Frame.get]
    repeat (with_reducible first | refine c_seq ?_ | refine on_n ?_ | refine c_skip ?_ | refine c_block ?_ | refine on_r ?_ | refine c_ret ?_ | refine c_exit ?_ | refine on_e ?_ | refine ob_e ?_ | refine ob_n ?_ | refine ob_r ?_ | refine ob_x rfl ?_)
    refine c_ops ?_
    refine r_op (o_bin rfl (by first | trivial | (unfold inI64; omega)) (s_no ?_))
    try dsimp only [putF, rd, Frame.get]
    refine r_op (o_mov (s_no ?_))
    try dsimp only [putF, rd, Frame.get]
    refine r_nil (c_keep ?_)
    try dsimp only [List.map]
    try dsimp only [putF, rd, Frame.get]
    repeat (with_reducible first | refine c_seq ?_ | refine on_n ?_ | refine c_skip ?_ | refine c_block ?_ | refine on_r ?_ | refine c_ret ?_ | refine c_exit ?_ | refine on_e ?_ | refine ob_e ?_ | refine ob_n ?_ | refine ob_r ?_ | refine ob_x rfl ?_)
    refine c_dec rfl (fun h1 => ?_) (fun h1 => ?_)
    · subst h1
      repeat (with_reducible first | refine c_seq ?_ | refine on_n ?_ | refine c_skip ?_ | refine c_block ?_ | refine on_r ?_ | refine c_ret ?_ | refine c_exit ?_ | refine on_e ?_ | refine ob_e ?_ | refine ob_n ?_ | refine ob_r ?_ | refine ob_x rfl ?_)
      refine c_ops ?_
      refine r_op (o_mov (s_no ?_))
      try dsimp only [putF, rd, Frame.get]
      refine r_op (o_len rfl (s_no ?_))
      try dsimp only [putF, rd, Frame.get]
      first | refine r_op (o_faddr rfl (s_no ?_)) | refine r_op (o_faddrR rfl (s_no ?_))
      try dsimp only [putF, rd, Frame.get]
      try simp only [Nat.zero_mul, Nat.mul_zero, Nat.mul_one, Nat.add_zero, Nat.zero_add, Nat.sub_zero, Nat.reduceAdd, Nat.reduceMul]
      first | refine r_op (o_load hS rfl rfl rfl rfl (s_no ?_)) | refine r_op (o_load hS rfl rfl (by assumption) rfl (s_no ?_)) | refine r_op (o_loadR rfl rfl rfl (s_no ?_)) | refine r_op (o_loadR rfl (by assumption) rfl (s_no ?_))
      try dsimp only [putF, rd, Frame.get]
      refine r_op (o_call ?_)
      dsimp only [List.map, putF, rd, Frame.get]
      refine ck_use hCk (size := h.text.length) (e := x) ⟨by unfold inI64; omega, hfit⟩ ?_
      refine s_no ?_
      try dsimp only [putF, rd, Frame.get]
      refine r_op (o_mov (s_no ?_))
      try dsimp only [putF, rd, Frame.get]
      refine r_nil (c_keep ?_)
      try dsimp only [List.map]
      try dsimp only [putF, rd, Frame.get]
      repeat (with_reducible first | refine c_seq ?_ | refine on_n ?_ | refine c_skip ?_ | refine c_block ?_ | refine on_r ?_ | refine c_ret ?_ | refine c_exit ?_ | refine on_e ?_ | refine ob_e ?_ | refine ob_n ?_ | refine ob_r ?_ | refine ob_x rfl ?_)
      refine c_ops ?_
      refine r_op (o_mov (s_no ?_))
      try dsimp only [putF, rd, Frame.get]
      refine r_op (o_bin rfl (by first | trivial | (unfold inI64; omega)) (s_no ?_))
      try dsimp only [putF, rd, Frame.get]
      refine r_nil (c_keep ?_)
      try dsimp only [List.map]
      try dsimp only [putF, rd, Frame.get]
      repeat (with_reducible first | refine c_seq ?_ | refine on_n ?_ | refine c_skip ?_ | refine c_block ?_ | refine on_r ?_ | refine c_ret ?_ | refine c_exit ?_ | refine on_e ?_ | refine ob_e ?_ | refine ob_n ?_ | refine ob_r ?_ | refine ob_x rfl ?_)
      refine c_ndec rfl (fun hf => ?_) (fun hf => ?_)
      · repeat (with_reducible first | refine c_seq ?_ | refine on_n ?_ | refine c_skip ?_ | refine c_block ?_ | refine on_r ?_ | refine c_ret ?_ | refine c_exit ?_ | refine on_e ?_ | refine ob_e ?_ | refine ob_n ?_ | refine ob_r ?_ | refine ob_x rfl ?_)
        exact rest h _ p v off cs X _ (deed_1 hf).1 hln hS.right
      have hmay : editMay h.text.length x := hf
      rw [hf]
      have pl := pastL_len h
      have hh := hln.head (n := h.undo.length + 1) (by omega)
      rw [line_take] at hh
      have hh1 := hh.1
      simp only [List.length_append, List.length_singleton, pl] at hh1
      repeat (with_reducible first | refine c_seq ?_ | refine on_n ?_ | refine c_skip ?_ | refine c_block ?_ | refine on_r ?_ | refine c_ret ?_ | refine c_exit ?_ | refine on_e ?_ | refine ob_e ?_ | refine ob_n ?_ | refine ob_r ?_ | refine ob_x rfl ?_)
      refine c_ops ?_
      refine r_op (o_mov (s_no ?_))
      try dsimp only [putF, rd, Frame.get]
      refine r_op (o_mov (s_no ?_))
      try dsimp only [putF, rd, Frame.get]
      refine r_op (o_bin rfl (by first | trivial | (unfold inI64; omega)) (s_no ?_))
      try dsimp only [putF, rd, Frame.get]
      refine r_op ?_
      refine o_slice (h' := h.undo.length + 1) (j := 0) hS rfl rfl ⟨_, rfl⟩ rfl (by omega) (by omega) ?_; simp only [Nat.zero_mul, Nat.add_zero, Nat.sub_zero]
      refine s_no ?_
      try dsimp only [putF, rd, Frame.get]
      refine r_op (o_mov (s_no ?_))
      try dsimp only [putF, rd, Frame.get]
      refine r_nil (c_keep ?_)
      try dsimp only [List.map]
      try dsimp only [putF, rd, Frame.get]
      repeat (with_reducible first | refine c_seq ?_ | refine on_n ?_ | refine c_skip ?_ | refine c_block ?_ | refine on_r ?_ | refine c_ret ?_ | refine c_exit ?_ | refine on_e ?_ | refine ob_e ?_ | refine ob_n ?_ | refine ob_r ?_ | refine ob_x rfl ?_)
      refine c_ops ?_
      refine r_op (o_mov (s_no ?_))
      try dsimp only [putF, rd, Frame.get]
      first | refine r_op (o_faddr rfl (s_no ?_)) | refine r_op (o_faddrR rfl (s_no ?_))
      try dsimp only [putF, rd, Frame.get]
      try simp only [Nat.zero_mul, Nat.mul_zero, Nat.mul_one, Nat.add_zero, Nat.zero_add, Nat.sub_zero, Nat.reduceAdd, Nat.reduceMul]
      first | refine r_op (o_load hS rfl rfl rfl rfl (s_no ?_)) | refine r_op (o_load hS rfl rfl (by assumption) rfl (s_no ?_)) | refine r_op (o_loadR rfl rfl rfl (s_no ?_)) | refine r_op (o_loadR rfl (by assumption) rfl (s_no ?_))
      try dsimp only [putF, rd, Frame.get]
      refine r_op (o_call ?_)
      dsimp only [List.map, putF, rd, Frame.get]
      refine made_use hMd (s := h.text) (e := x) hmay ?_
      refine s_no ?_
      try dsimp only [putF, rd, Frame.get]
      refine r_op (o_mov (s_no ?_))
      try dsimp only [putF, rd, Frame.get]
      refine r_nil (c_keep ?_)
      try dsimp only [List.map]
      try dsimp only [putF, rd, Frame.get]
      repeat (with_reducible first | refine c_seq ?_ | refine on_n ?_ | refine c_skip ?_ | refine c_block ?_ | refine on_r ?_ | refine c_ret ?_ | refine c_exit ?_ | refine on_e ?_ | refine ob_e ?_ | refine ob_n ?_ | refine ob_r ?_ | refine ob_x rfl ?_)
      refine c_ops ?_
      refine r_op (o_mov (s_no ?_))
      try dsimp only [putF, rd, Frame.get]
      refine r_nil (c_keep ?_)
      try dsimp only [List.map]
      try dsimp only [putF, rd, Frame.get]
      repeat (with_reducible first | refine c_seq ?_ | refine on_n ?_ | refine c_skip ?_ | refine c_block ?_ | refine on_r ?_ | refine c_ret ?_ | refine c_exit ?_ | refine on_e ?_ | refine ob_e ?_ | refine ob_n ?_ | refine ob_r ?_ | refine ob_x rfl ?_)
      refine c_bool rfl (fun ho => ?_) (fun ho => ?_)
      · repeat (with_reducible first | refine c_seq ?_ | refine on_n ?_ | refine c_skip ?_ | refine c_block ?_ | refine on_r ?_ | refine c_ret ?_ | refine c_exit ?_ | refine on_e ?_ | refine ob_e ?_ | refine ob_n ?_ | refine ob_r ?_ | refine ob_x rfl ?_)
        refine c_ops ?_
        refine r_op (o_mov (s_no ?_))
        try dsimp only [putF, rd, Frame.get]
        refine r_op (o_mov (s_no ?_))
        try dsimp only [putF, rd, Frame.get]
        refine r_op (o_mov (s_no ?_))
        try dsimp only [putF, rd, Frame.get]
        first | refine r_op (o_iaddr hS rfl rfl rfl (by omega) (s_no ?_)) | refine r_op (o_iaddrR rfl rfl (by omega) (by assumption) (s_no ?_)) | refine r_op (o_iaddrA rfl rfl (by omega) (s_no ?_)) | refine r_op (o_iaddrAR rfl rfl (by omega) (s_no ?_))
        try dsimp only [putF, rd, Frame.get]
        try simp only [Nat.zero_mul, Nat.mul_zero, Nat.mul_one, Nat.add_zero, Nat.zero_add, Nat.sub_zero, Nat.reduceAdd, Nat.reduceMul]
        refine r_op ?_
        refine o_store hS rfl rfl rfl rfl (by omega) fun S hS => ?_; (try dsimp only [putF, rd, Frame.get] at hS)
        refine s_no ?_
        try dsimp only [putF, rd, Frame.get]
        refine r_nil (c_keep ?_)
        try dsimp only [List.map]
        try dsimp only [putF, rd, Frame.get]
        repeat (with_reducible first | refine c_seq ?_ | refine on_n ?_ | refine c_skip ?_ | refine c_block ?_ | refine on_r ?_ | refine c_ret ?_ | refine c_exit ?_ | refine on_e ?_ | refine ob_e ?_ | refine ob_n ?_ | refine ob_r ?_ | refine ob_x rfl ?_)
        obtain ⟨m1, m2⟩ := make_open ic hmay ho
        have hL := hh.set (editMade h.text x)
        rw [pl, ← m1] at hL
        have := rest (hMake h x) 0 p v off _ X _ (deed_1' hf).1 hL hS.right
        rw [m1, m2] at this
        simp only [List.length_append, List.length_singleton, pl] at this
        rw [ho]
        exact this
      · obtain ⟨m1, m2⟩ := make_shut ic hmay ho
        have hsl : (subL cs off ((h.undo.length + 1) * 1)).length = (h.undo.length + 1) * 1 := by unfold subL; rw [List.length_take, List.length_drop]; omega
        have hR : subL cs off ((h.undo.length + 1) * 1) ++ [AVal.str (editMade h.text x)] = (pastL h ++ [h.text] ++ [editMade h.text x]).map .str := by
          have := hh.2
          simp only [List.length_append, List.length_singleton, pl] at this
          rw [Nat.mul_one, this]; simp only [List.map_append, List.map_cons, List.map_nil]
        have hL : LnR ((pastL h ++ [h.text] ++ [editMade h.text x]).map .str) 0 (pastL h ++ [h.text] ++ [editMade h.text x]) := ⟨by simp, by unfold subL; rw [List.drop_zero, List.take_of_length_le (by simp)]⟩
        have hLl : (pastL h ++ [h.text] ++ [editMade h.text x]).length = h.undo.length + 1 + 1 := by simp [pl]
        repeat (with_reducible first | refine c_seq ?_ | refine on_n ?_ | refine c_skip ?_ | refine c_block ?_ | refine on_r ?_ | refine c_ret ?_ | refine c_exit ?_ | refine on_e ?_ | refine ob_e ?_ | refine ob_n ?_ | refine ob_r ?_ | refine ob_x rfl ?_)
        refine c_ops ?_
        refine r_op (o_mov (s_no ?_))
        try dsimp only [putF, rd, Frame.get]
        refine r_op ?_
        refine o_appendN hS rfl (SrcOf.own rfl (by omega)) (by omega) fun v64 l64 S hS => ?_
        refine s_no ?_
        try dsimp only [putF, rd, Frame.get]
        refine r_op (o_mov (s_no ?_))
        try dsimp only [putF, rd, Frame.get]
        refine r_op (o_bsliceR rfl (s_no ?_))
        try dsimp only [putF, rd, Frame.get, setCells, over]
        try dsimp only [putF, rd, Frame.get, setCells, over] at hS
        refine r_op ?_
        refine o_appendX hS rfl (SrcOf.one rfl) rfl hsl (by omega) fun v67 S hS => ?_
        refine s_no ?_
        try dsimp only [putF, rd, Frame.get]
        refine r_op (o_mov (s_no ?_))
        try dsimp only [putF, rd, Frame.get]
        refine r_nil (c_keep ?_)
        try dsimp only [List.map]
        try dsimp only [putF, rd, Frame.get]
        rw [hR] at hS
        have hS := hS.mid.eq (m' := pt p1 (.row v1 1 (T.map .str)) + (pt p2 (.row v2 1 (C.map (.int .i64))) + (pt l64 (.row v67 1 ((pastL h ++ [h.text] ++ [editMade h.text x]).map .str)) + ((X + pt p (.row v 1 cs)) + mf)))) (by ac_rfl)
        repeat (with_reducible first | refine c_seq ?_ | refine on_n ?_ | refine c_skip ?_ | refine c_block ?_ | refine on_r ?_ | refine c_ret ?_ | refine c_exit ?_ | refine on_e ?_ | refine ob_e ?_ | refine ob_n ?_ | refine ob_r ?_ | refine ob_x rfl ?_)
        refine c_ops ?_
        refine r_op (o_mov (s_no ?_))
        try dsimp only [putF, rd, Frame.get]
        refine r_op (o_bin rfl (by first | trivial | (unfold inI64; omega)) (s_no ?_))
        try dsimp only [putF, rd, Frame.get]
        refine r_op (o_mov (s_no ?_))
        try dsimp only [putF, rd, Frame.get]
        refine r_nil (c_keep ?_)
        try dsimp only [List.map]
        try dsimp only [putF, rd, Frame.get]
        repeat (with_reducible first | refine c_seq ?_ | refine on_n ?_ | refine c_skip ?_ | refine c_block ?_ | refine on_r ?_ | refine c_ret ?_ | refine c_exit ?_ | refine on_e ?_ | refine ob_e ?_ | refine ob_n ?_ | refine ob_r ?_ | refine ob_x rfl ?_)
        refine c_ops ?_
        refine r_op (o_mov (s_no ?_))
        try dsimp only [putF, rd, Frame.get]
        refine r_nil (c_keep ?_)
        try dsimp only [List.map]
        try dsimp only [putF, rd, Frame.get]
        repeat (with_reducible first | refine c_seq ?_ | refine on_n ?_ | refine c_skip ?_ | refine c_block ?_ | refine on_r ?_ | refine c_ret ?_ | refine c_exit ?_ | refine on_e ?_ | refine ob_e ?_ | refine ob_n ?_ | refine ob_r ?_ | refine ob_x rfl ?_)
        refine c_ops ?_
        refine r_op (o_mov (s_no ?_))
        try dsimp only [putF, rd, Frame.get]
        refine r_op (o_bin rfl (by first | trivial | (unfold inI64; omega)) (s_no ?_))
        try dsimp only [putF, rd, Frame.get]
        refine r_nil (c_keep ?_)
        try dsimp only [List.map]
        try dsimp only [putF, rd, Frame.get]
        repeat (with_reducible first | refine c_seq ?_ | refine on_n ?_ | refine c_skip ?_ | refine c_block ?_ | refine on_r ?_ | refine c_ret ?_ | refine c_exit ?_ | refine on_e ?_ | refine ob_e ?_ | refine ob_n ?_ | refine ob_r ?_ | refine ob_x rfl ?_)
        refine c_dec rfl (fun hg => ?_) (fun hg => ?_)
        · obtain ⟨m1, m2⟩ := m1 (by omega)
          repeat (with_reducible first | refine c_seq ?_ | refine on_n ?_ | refine c_skip ?_ | refine c_block ?_ | refine on_r ?_ | refine c_ret ?_ | refine c_exit ?_ | refine on_e ?_ | refine ob_e ?_ | refine ob_n ?_ | refine ob_r ?_ | refine ob_x rfl ?_)
          refine c_ops ?_
          refine r_op (o_mov (s_no ?_))
          try dsimp only [putF, rd, Frame.get]
          first | refine r_op (o_slice hS rfl rfl rfl ⟨_, (rfl : _ = AVal.int .i64 ((1 : Nat) : Int))⟩ (by omega) (by omega) (s_no ?_)) | refine r_op (o_sliceR rfl rfl ⟨_, (rfl : _ = AVal.int .i64 ((1 : Nat) : Int))⟩ (by omega) (by omega) (by assumption) (s_no ?_)) | refine r_op (o_sliceN rfl rfl ⟨_, (rfl : _ = AVal.int .i64 ((1 : Nat) : Int))⟩ (s_no ?_))
          try dsimp only [putF, rd, Frame.get]
          try simp only [Nat.zero_mul, Nat.mul_zero, Nat.mul_one, Nat.add_zero, Nat.zero_add, Nat.sub_zero, Nat.reduceAdd, Nat.reduceMul]
          refine r_op (o_mov (s_no ?_))
          try dsimp only [putF, rd, Frame.get]
          refine r_nil (c_keep ?_)
          try dsimp only [List.map]
          try dsimp only [putF, rd, Frame.get]
          repeat (with_reducible first | refine c_seq ?_ | refine on_n ?_ | refine c_skip ?_ | refine c_block ?_ | refine on_r ?_ | refine c_ret ?_ | refine c_exit ?_ | refine on_e ?_ | refine ob_e ?_ | refine ob_n ?_ | refine ob_r ?_ | refine ob_x rfl ?_)
          refine c_ops ?_
          refine r_op (o_mov (s_no ?_))
          try dsimp only [putF, rd, Frame.get]
          refine r_op (o_bin rfl (by first | trivial | (unfold inI64; omega)) (s_no ?_))
          try dsimp only [putF, rd, Frame.get]
          refine r_op (o_mov (s_no ?_))
          try dsimp only [putF, rd, Frame.get]
          refine r_nil (c_keep ?_)
          try dsimp only [List.map]
          try dsimp only [putF, rd, Frame.get]
          repeat (with_reducible first | refine c_seq ?_ | refine on_n ?_ | refine c_skip ?_ | refine c_block ?_ | refine on_r ?_ | refine c_ret ?_ | refine c_exit ?_ | refine on_e ?_ | refine ob_e ?_ | refine ob_n ?_ | refine ob_r ?_ | refine ob_x rfl ?_)
          have hT := hL.tail (n := 1) (by omega)
          rw [← m1] at hT
          have := rest (hMake h x) 0 l64 v67 (0 + 1) _ _ _ (deed_1' hf).1 hT hS
          rw [m1, m2, List.length_drop, hLl] at this
          rw [show ((h.undo.length : Int) + 1 - 1) = (h.undo.length : Int) by omega]
          exact this
        · obtain ⟨m1, m2⟩ := m2 (by omega)
          repeat (with_reducible first | refine c_seq ?_ | refine on_n ?_ | refine c_skip ?_ | refine c_block ?_ | refine on_r ?_ | refine c_ret ?_ | refine c_exit ?_ | refine on_e ?_ | refine ob_e ?_ | refine ob_n ?_ | refine ob_r ?_ | refine ob_x rfl ?_)
          rw [← m1] at hL
          have := rest (hMake h x) 0 l64 v67 0 _ _ _ (deed_1' hf).1 hL (by rw [m1]; exact hS)
          rw [m1, m2, hLl] at this
          exact this
    repeat (with_reducible first | refine c_seq ?_ | refine on_n ?_ | refine c_skip ?_ | refine c_block ?_ | refine on_r ?_ | refine c_ret ?_ | refine c_exit ?_ | refine on_e ?_ | refine ob_e ?_ | refine ob_n ?_ | refine ob_r ?_ | refine ob_x rfl ?_)
    refine c_ops ?_
    refine r_op (o_bin rfl (by first | trivial | (unfold inI64; omega)) (s_no ?_))
    try dsimp only [putF, rd, Frame.get]
    refine r_op (o_mov (s_no ?_))
    try dsimp only [putF, rd, Frame.get]
    refine r_nil (c_keep ?_)
    try dsimp only [List.map]
    try dsimp only [putF, rd, Frame.get]
    repeat (with_reducible first | refine c_seq ?_ | refine on_n ?_ | refine c_skip ?_ | refine c_block ?_ | refine on_r ?_ | refine c_ret ?_ | refine c_exit ?_ | refine on_e ?_ | refine ob_e ?_ | refine ob_n ?_ | refine ob_r ?_ | refine ob_x rfl ?_)
    refine c_dec rfl (fun h2 => ?_) (fun h2 => ?_)
    · subst h2
      repeat (with_reducible first | refine c_seq ?_ | refine on_n ?_ | refine c_skip ?_ | refine c_block ?_ | refine on_r ?_ | refine c_ret ?_ | refine c_exit ?_ | refine on_e ?_ | refine ob_e ?_ | refine ob_n ?_ | refine ob_r ?_ | refine ob_x rfl ?_)
      refine c_ops ?_
      refine r_op (o_mov (s_no ?_))
      try dsimp only [putF, rd, Frame.get]
      refine r_nil (c_keep ?_)
      try dsimp only [List.map]
      try dsimp only [putF, rd, Frame.get]
      repeat (with_reducible first | refine c_seq ?_ | refine on_n ?_ | refine c_skip ?_ | refine c_block ?_ | refine on_r ?_ | refine c_ret ?_ | refine c_exit ?_ | refine on_e ?_ | refine ob_e ?_ | refine ob_n ?_ | refine ob_r ?_ | refine ob_x rfl ?_)
      exact rest _ _ p v off cs X _ deed_2.1 hln hS.right
    repeat (with_reducible first | refine c_seq ?_ | refine on_n ?_ | refine c_skip ?_ | refine c_block ?_ | refine on_r ?_ | refine c_ret ?_ | refine c_exit ?_ | refine on_e ?_ | refine ob_e ?_ | refine ob_n ?_ | refine ob_r ?_ | refine ob_x rfl ?_)
    refine c_ops ?_
    refine r_op (o_bin rfl (by first | trivial | (unfold inI64; omega)) (s_no ?_))
    try dsimp only [putF, rd, Frame.get]
    refine r_op (o_mov (s_no ?_))
    try dsimp only [putF, rd, Frame.get]
    refine r_nil (c_keep ?_)
    try dsimp only [List.map]
    try dsimp only [putF, rd, Frame.get]
    repeat (with_reducible first | refine c_seq ?_ | refine on_n ?_ | refine c_skip ?_ | refine c_block ?_ | refine on_r ?_ | refine c_ret ?_ | refine c_exit ?_ | refine on_e ?_ | refine ob_e ?_ | refine ob_n ?_ | refine ob_r ?_ | refine ob_x rfl ?_)
    refine c_dec rfl (fun h3 => ?_) (fun h3 => ?_)
    · subst h3
      repeat (with_reducible first | refine c_seq ?_ | refine on_n ?_ | refine c_skip ?_ | refine c_block ?_ | refine on_r ?_ | refine c_ret ?_ | refine c_exit ?_ | refine on_e ?_ | refine ob_e ?_ | refine ob_n ?_ | refine ob_r ?_ | refine ob_x rfl ?_)
      refine c_ops ?_
      refine r_op (o_mov (s_no ?_))
      try dsimp only [putF, rd, Frame.get]
      refine r_op (o_bin rfl (by first | trivial | (unfold inI64; omega)) (s_no ?_))
      try dsimp only [putF, rd, Frame.get]
      refine r_nil (c_keep ?_)
      try dsimp only [List.map]
      try dsimp only [putF, rd, Frame.get]
      repeat (with_reducible first | refine c_seq ?_ | refine on_n ?_ | refine c_skip ?_ | refine c_block ?_ | refine on_r ?_ | refine c_ret ?_ | refine c_exit ?_ | refine on_e ?_ | refine ob_e ?_ | refine ob_n ?_ | refine ob_r ?_ | refine ob_x rfl ?_)
      refine c_dec rfl (fun hz => ?_) (fun hz => ?_)
      · have hu : h.undo = [] := List.eq_nil_of_length_eq_zero (by omega)
        repeat (with_reducible first | refine c_seq ?_ | refine on_n ?_ | refine c_skip ?_ | refine c_block ?_ | refine on_r ?_ | refine c_ret ?_ | refine c_exit ?_ | refine on_e ?_ | refine ob_e ?_ | refine ob_n ?_ | refine ob_r ?_ | refine ob_x rfl ?_)
        refine c_ops ?_
        refine r_op (o_mov (s_no ?_))
        try dsimp only [putF, rd, Frame.get]
        refine r_nil (c_keep ?_)
        try dsimp only [List.map]
        try dsimp only [putF, rd, Frame.get]
        repeat (with_reducible first | refine c_seq ?_ | refine on_n ?_ | refine c_skip ?_ | refine c_block ?_ | refine on_r ?_ | refine c_ret ?_ | refine c_exit ?_ | refine on_e ?_ | refine ob_e ?_ | refine ob_n ?_ | refine ob_r ?_ | refine ob_x rfl ?_)
        exact rest h 7 p v off cs X _ (deed_3 hu).1 hln hS.right
      · have hu : h.undo ≠ [] := fun e => hz (by rw [e]; rfl)
        obtain ⟨i1, i2, i3⟩ := ic.undo_ hu
        repeat (with_reducible first | refine c_seq ?_ | refine on_n ?_ | refine c_skip ?_ | refine c_block ?_ | refine on_r ?_ | refine c_ret ?_ | refine c_exit ?_ | refine on_e ?_ | refine ob_e ?_ | refine ob_n ?_ | refine ob_r ?_ | refine ob_x rfl ?_)
        refine c_ops ?_
        refine r_op (o_mov (s_no ?_))
        try dsimp only [putF, rd, Frame.get]
        refine r_op (o_bin rfl (by first | trivial | (unfold inI64; omega)) (s_no ?_))
        try dsimp only [putF, rd, Frame.get]
        refine r_op (o_mov (s_no ?_))
        try dsimp only [putF, rd, Frame.get]
        refine r_nil (c_keep ?_)
        try dsimp only [List.map]
        try dsimp only [putF, rd, Frame.get]
        repeat (with_reducible first | refine c_seq ?_ | refine on_n ?_ | refine c_skip ?_ | refine c_block ?_ | refine on_r ?_ | refine c_ret ?_ | refine c_exit ?_ | refine on_e ?_ | refine ob_e ?_ | refine ob_n ?_ | refine ob_r ?_ | refine ob_x rfl ?_)
        refine c_ops ?_
        refine r_op (o_mov (s_no ?_))
        try dsimp only [putF, rd, Frame.get]
        refine r_nil (c_keep ?_)
        try dsimp only [List.map]
        try dsimp only [putF, rd, Frame.get]
        repeat (with_reducible first | refine c_seq ?_ | refine on_n ?_ | refine c_skip ?_ | refine c_block ?_ | refine on_r ?_ | refine c_ret ?_ | refine c_exit ?_ | refine on_e ?_ | refine ob_e ?_ | refine ob_n ?_ | refine ob_r ?_ | refine ob_x rfl ?_)
        have := rest (hUndo h) 0 p v off cs X _ (deed_3' hu).1 (by rw [i2]; exact hln) hS.right
        rw [i2] at this
        rw [show ((h.undo.length : Int) - 1) = ((hUndo h).undo.length : Int) by omega]
        exact this
    repeat (with_reducible first | refine c_seq ?_ | refine on_n ?_ | refine c_skip ?_ | refine c_block ?_ | refine on_r ?_ | refine c_ret ?_ | refine c_exit ?_ | refine on_e ?_ | refine ob_e ?_ | refine ob_n ?_ | refine ob_r ?_ | refine ob_x rfl ?_)
    refine c_ops ?_
    refine r_op (o_bin rfl (by first | trivial | (unfold inI64; omega)) (s_no ?_))
    try dsimp only [putF, rd, Frame.get]
    refine r_op (o_mov (s_no ?_))
    try dsimp only [putF, rd, Frame.get]
    refine r_nil (c_keep ?_)
    try dsimp only [List.map]
    try dsimp only [putF, rd, Frame.get]
    repeat (with_reducible first | refine c_seq ?_ | refine on_n ?_ | refine c_skip ?_ | refine c_block ?_ | refine on_r ?_ | refine c_ret ?_ | refine c_exit ?_ | refine on_e ?_ | refine ob_e ?_ | refine ob_n ?_ | refine ob_r ?_ | refine ob_x rfl ?_)
    refine c_dec rfl (fun h4 => ?_) (fun h4 => ?_)
    · subst h4
      repeat (with_reducible first | refine c_seq ?_ | refine on_n ?_ | refine c_skip ?_ | refine c_block ?_ | refine on_r ?_ | refine c_ret ?_ | refine c_exit ?_ | refine on_e ?_ | refine ob_e ?_ | refine ob_n ?_ | refine ob_r ?_ | refine ob_x rfl ?_)
      refine c_ops ?_
      refine r_op (o_mov (s_no ?_))
      try dsimp only [putF, rd, Frame.get]
      refine r_op (o_bin rfl (by first | trivial | (unfold inI64; omega)) (s_no ?_))
      try dsimp only [putF, rd, Frame.get]
      refine r_op (o_mov (s_no ?_))
      try dsimp only [putF, rd, Frame.get]
      refine r_op (o_len rfl (s_no ?_))
      try dsimp only [putF, rd, Frame.get]
      refine r_op (o_bin rfl (by first | trivial | (unfold inI64; omega)) (s_no ?_))
      try dsimp only [putF, rd, Frame.get]
      refine r_nil (c_keep ?_)
      try dsimp only [List.map]
      try dsimp only [putF, rd, Frame.get]
      repeat (with_reducible first | refine c_seq ?_ | refine on_n ?_ | refine c_skip ?_ | refine c_block ?_ | refine on_r ?_ | refine c_ret ?_ | refine c_exit ?_ | refine on_e ?_ | refine ob_e ?_ | refine ob_n ?_ | refine ob_r ?_ | refine ob_x rfl ?_)
      refine c_dec rfl (fun hz => ?_) (fun hz => ?_)
      · have hu : h.redo = [] := List.eq_nil_of_length_eq_zero (by omega)
        repeat (with_reducible first | refine c_seq ?_ | refine on_n ?_ | refine c_skip ?_ | refine c_block ?_ | refine on_r ?_ | refine c_ret ?_ | refine c_exit ?_ | refine on_e ?_ | refine ob_e ?_ | refine ob_n ?_ | refine ob_r ?_ | refine ob_x rfl ?_)
        refine c_ops ?_
        refine r_op (o_mov (s_no ?_))
        try dsimp only [putF, rd, Frame.get]
        refine r_nil (c_keep ?_)
        try dsimp only [List.map]
        try dsimp only [putF, rd, Frame.get]
        repeat (with_reducible first | refine c_seq ?_ | refine on_n ?_ | refine c_skip ?_ | refine c_block ?_ | refine on_r ?_ | refine c_ret ?_ | refine c_exit ?_ | refine on_e ?_ | refine ob_e ?_ | refine ob_n ?_ | refine ob_r ?_ | refine ob_x rfl ?_)
        exact rest h 7 p v off cs X _ (deed_4 hu).1 hln hS.right
      · have hu : h.redo ≠ [] := fun e => hz (by rw [ll, e]; simp)
        obtain ⟨i1, i2, i3⟩ := ic.redo_ hu
        repeat (with_reducible first | refine c_seq ?_ | refine on_n ?_ | refine c_skip ?_ | refine c_block ?_ | refine on_r ?_ | refine c_ret ?_ | refine c_exit ?_ | refine on_e ?_ | refine ob_e ?_ | refine ob_n ?_ | refine ob_r ?_ | refine ob_x rfl ?_)
        refine c_ops ?_
        refine r_op (o_mov (s_no ?_))
        try dsimp only [putF, rd, Frame.get]
        refine r_op (o_bin rfl (by first | trivial | (unfold inI64; omega)) (s_no ?_))
        try dsimp only [putF, rd, Frame.get]
        refine r_op (o_mov (s_no ?_))
        try dsimp only [putF, rd, Frame.get]
        refine r_nil (c_keep ?_)
        try dsimp only [List.map]
        try dsimp only [putF, rd, Frame.get]
        repeat (with_reducible first | refine c_seq ?_ | refine on_n ?_ | refine c_skip ?_ | refine c_block ?_ | refine on_r ?_ | refine c_ret ?_ | refine c_exit ?_ | refine on_e ?_ | refine ob_e ?_ | refine ob_n ?_ | refine ob_r ?_ | refine ob_x rfl ?_)
        refine c_ops ?_
        refine r_op (o_mov (s_no ?_))
        try dsimp only [putF, rd, Frame.get]
        refine r_nil (c_keep ?_)
        try dsimp only [List.map]
        try dsimp only [putF, rd, Frame.get]
        repeat (with_reducible first | refine c_seq ?_ | refine on_n ?_ | refine c_skip ?_ | refine c_block ?_ | refine on_r ?_ | refine c_ret ?_ | refine c_exit ?_ | refine on_e ?_ | refine ob_e ?_ | refine ob_n ?_ | refine ob_r ?_ | refine ob_x rfl ?_)
        have := rest (hRedo h) 0 p v off cs X _ (deed_4' hu).1 (by rw [i2]; exact hln) hS.right
        rw [i2] at this
        rw [show ((h.undo.length : Int) + 1) = ((hRedo h).undo.length : Int) by omega]
        exact this
    · repeat (with_reducible first | refine c_seq ?_ | refine on_n ?_ | refine c_skip ?_ | refine c_block ?_ | refine on_r ?_ | refine c_ret ?_ | refine c_exit ?_ | refine on_e ?_ | refine ob_e ?_ | refine ob_n ?_ | refine ob_r ?_ | refine ob_x rfl ?_)
      refine c_ops ?_
      refine r_op (o_mov (s_no ?_))
      try dsimp only [putF, rd, Frame.get]
      refine r_nil (c_keep ?_)
      try dsimp only [List.map]
      try dsimp only [putF, rd, Frame.get]
      repeat (with_reducible first | refine c_seq ?_ | refine on_n ?_ | refine c_skip ?_ | refine c_block ?_ | refine on_r ?_ | refine c_ret ?_ | refine c_exit ?_ | refine on_e ?_ | refine ob_e ?_ | refine ob_n ?_ | refine ob_r ?_ | refine ob_x rfl ?_)
      exact rest h 3 p v off cs X _ (deed_5 h1 h2 h3 h4).1 hln hS.right
  · obtain rfl : j = l.length := by omega
    rw [List.take_of_length_le (Nat.le_refl _)] at hS hln ⊢
    have ll := lineOf_len (hEnd (hNew s) l)
    have ia := (HInv.run (s := s) (by unfold histBig at hbig; omega) l).all
    repeat (with_reducible first | refine c_seq ?_ | refine on_n ?_ | refine c_skip ?_ | refine c_block ?_ | refine on_r ?_ | refine c_ret ?_ | refine c_exit ?_ | refine on_e ?_ | refine ob_e ?_ | refine ob_n ?_ | refine ob_r ?_ | refine ob_x rfl ?_)
    refine c_ops ?_
    refine r_op (o_mov (s_no ?_))
    try dsimp only [putF, rd, Frame.get]
    refine r_op (o_mov (s_no ?_))
    try dsimp only [putF, rd, Frame.get]
    refine r_op (o_mov (s_no ?_))
    try dsimp only [putF, rd, Frame.get]
    refine r_op (o_mov (s_no ?_))
    try dsimp only [putF, rd, Frame.get]
    refine r_op (o_len rfl (s_no ?_))
    try dsimp only [putF, rd, Frame.get]
    refine r_op (o_bin rfl (by first | trivial | (unfold inI64; omega)) (s_no ?_))
    try dsimp only [putF, rd, Frame.get]
    refine r_op (o_mov (s_no ?_))
    try dsimp only [putF, rd, Frame.get]
    refine r_op (o_bin rfl (by first | trivial | (unfold inI64; omega)) (s_no ?_))
    try dsimp only [putF, rd, Frame.get]
    refine r_op (o_mov (s_no ?_))
    try dsimp only [putF, rd, Frame.get]
    refine r_op (o_mov (s_no ?_))
    try dsimp only [putF, rd, Frame.get]
    refine r_op (o_mov (s_no ?_))
    try dsimp only [putF, rd, Frame.get]
    refine r_op (o_mov (s_no ?_))
    try dsimp only [putF, rd, Frame.get]
    refine r_op (o_mov (s_no ?_))
    try dsimp only [putF, rd, Frame.get]
    refine r_nil (c_keep ?_)
    try dsimp only [List.map]
    try dsimp only [putF, rd, Frame.get]
    repeat (with_reducible first | refine c_seq ?_ | refine on_n ?_ | refine c_skip ?_ | refine c_block ?_ | refine on_r ?_ | refine c_ret ?_ | refine c_exit ?_ | refine on_e ?_ | refine ob_e ?_ | refine ob_n ?_ | refine ob_r ?_ | refine ob_x rfl ?_)
    dsimp only
    unfold ref_HistPlayed_r
    refine w_tmp (w_tmp (w_tmp (w_tmp (w_tmp (w_nil ?_)))))
    dsimp only [retV, Frame.get]
    refine ⟨_, .inr ⟨hbig, p1, v1, p2, v2, pt p (.row v 1 cs) + X, ?_, rfl⟩, hS.eq (by ac_rfl)⟩
    rw [show (((lineOf (hEnd (hNew s) l)).length : Int) - 1 - ((hEnd (hNew s) l).undo.length : Int)) = ((hEnd (hNew s) l).redo.length : Int) by omega]
theorem hist_ref_con (hCk : Con Try.prog f_ref_EditFault ref_EditFault_ct) (hMd : Con Try.prog f_ref_editMade ref_editMade_ct) : Con Try.prog f_ref_HistPlayed ref_HistPlayed_ct := by
  refine ⟨ref_HistPlayed_ok.able rfl, fun (x : Bytes × List Deed) hp => ?_⟩
  obtain ⟨s, l⟩ := x
  refine HC.plainly (ref_walk hCk hMd s l hp) ?_
  rintro r m' S' (⟨hb, rfl⟩ | ⟨hb, p1, v1, p2, v2, X, rfl, rfl⟩) hS
  · refine ⟨_, id, [], .refl _, has_none, [.nils, .nils, .int .i64 0, .int .i64 0, .int .i64 1], ?_, rfl⟩
    show resA [.own .str, .own tI, .val tI, .val tI, .val tI] ((histPlay s l).1, (histPlay s l).2.1, (histCounts s l).1, (histCounts s l).2.1, (histPlay s l).2.2) 0 _ _
    rw [(play_big hb).1, (play_big hb).2]
    exact .inr ⟨rfl, _, rfl, .inr ⟨rfl, _, rfl, _, rfl, _, rfl, _, rfl, rfl, rfl⟩⟩
  · have hl1 := hTexts_len l (hNew s)
    have hl2 := hCodes_len l (hNew s)
    rw [H.map_str, H.map_int] at hS
    refine ⟨.tup [.sl 0 v1 0 l.length, .sl 1 v2 0 l.length, .int .i64 (hEnd (hNew s) l).undo.length, .int .i64 (hEnd (hNew s) l).redo.length, .int .i64 0], _, _, .tup (.cons .sl (.cons .sl (.refl _))), has_two hS, [.sl 0 v1 0 l.length, .sl 1 v2 0 l.length, .int .i64 (hEnd (hNew s) l).undo.length, .int .i64 (hEnd (hNew s) l).redo.length, .int .i64 0], ?_, rfl⟩
    show resA [.own .str, .own tI, .val tI, .val tI, .val tI] ((histPlay s l).1, (histPlay s l).2.1, (histCounts s l).1, (histCounts s l).2.1, (histPlay s l).2.2) 0 _ _
    rw [(play_small hb).1, (play_small hb).2]
    refine .inl ⟨v1, [.sl 1 v2 0 l.length, .int .i64 (hEnd (hNew s) l).undo.length, .int .i64 (hEnd (hNew s) l).redo.length, .int .i64 0], _, ?_, rfl, .inl ⟨v2, [.int .i64 (hEnd (hNew s) l).undo.length, .int .i64 (hEnd (hNew s) l).redo.length, .int .i64 0], [], ?_, rfl, _, rfl, _, rfl, [], rfl, rfl, rfl⟩⟩
    · show _ = AVal.sl 0 v1 0 (hTexts (hNew s) l).length :: _
      rw [hl1]
    · show _ = AVal.sl 1 v2 0 (hCodes (hNew s) l).length :: _
      rw [hl2]
end Go.Proofs.Yteifemonokemgaa.R
