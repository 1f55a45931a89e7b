/- Words of a text that is changed: walked. Conditions: none. -/
import Derived.Test.YtmpmlnjiolbplaaGU
import Derived.Test.YtmpmlnjiolbplaaW3
import Derived.Test.YtmpmlnjiolbplaaVpWU
import Derived.Test.YtmpmlnjiolbplaaVh9
set_option linter.unusedVariables false
set_option linter.unusedSimpArgs false
set_option maxRecDepth 100000
namespace Go.Proofs.Ytmpmlnjiolbplaa.U
open Go.Vc Go.Fu Go.Proofs.Ytmpmlnjiolbplaa.W
theorem isort_hc {P : Program} {ρ : Go.Shelf.Ren} (L : SlLaysM.n5 P ρ) (ha : callable P (ρ.f 5) = true) {p v n : Nat} {ls : List Int} (hn : ls.length = n) (hl : ls.length < 4611686018427387904) :
    HC P (ρ.f 5) [.sl p v 0 n] (pt p (.row v 1 (ints64 ls))) fun r m' => r = .tup [] ∧ m' = pt p (.row v 1 (ints64 (srt ls))) := by
  subst hn
  intro S mf hS
  exact (isort_calls L ha hS.get hl).mono fun r S' ⟨h1, h2⟩ => ⟨_, ⟨h1, rfl⟩, h2 ▸ hS.put _⟩
theorem isort_con : ∃ ρ, SlLaysM.n5 Try.prog ρ ∧ ρ.f 5 = f_slices_Sort___int_int_ := ⟨_, Try.sortI, rfl⟩
theorem SortI_hc {p v n : Nat} {ls : List Int} (hn : ls.length = n) (hl : ls.length < 4611686018427387904) : HC Try.prog f_slices_Sort___int_int_ [.sl p v 0 n] (pt p (.row v 1 (ints64 ls))) fun r m' => r = .tup [] ∧ m' = pt p (.row v 1 (ints64 (srt ls))) := by
  obtain ⟨ρ, L, e⟩ := isort_con
  rw [← e]
  exact isort_hc L (by rw [e]; kernel_rfl) hn hl
theorem wcell_at {l : WTab} {j : Nat} {x : Bytes × List Int} (h : l[j]? = some x) : takeN 2 ((l.flatMap (encT tWord)).drop (j * 2)) = some [.str x.1, .ros x.2.length (x.2.flatMap (encT tI))] := by
  induction l generalizing j with
  | nil => simp at h
  | cons y l ih =>
    cases j with
    | zero => simp at h; subst h; rfl
    | succ j =>
      have := ih (j := j) (by simpa using h)
      rw [show (j + 1) * 2 = j * 2 + 2 by omega]
      show takeN 2 ((_ :: _ :: l.flatMap (encT tWord)).drop (j * 2 + 2)) = _
      exact this
theorem int_at {a : List Int} {j : Nat} {x : Int} (h : a[j]? = some x) : takeN 1 ((a.flatMap (encT tI)).drop (j * 1)) = some [.int .i64 x] := by
  have e : a.flatMap (encT tI) = a.map (AVal.int .i64) := (int_cells a).symm
  rw [e, Nat.mul_one]
  have hj := (List.getElem?_eq_some_iff.1 h).1
  rw [List.drop_eq_getElem_cons (by simpa using hj)]
  simp [takeN, (List.getElem?_eq_some_iff.1 h).2]

theorem eqf_rc (hU : Con Try.prog f_words_Update_1 words_Update_1_ct) {l M : WTab} (hl : wtFit l) (hM : wtFit M) : RC Try.prog f_slices_EqualFunc___api_Word___api_Word_api_Word_api_Word_ [encA (.sl tWord) l, encA (.sl tWord) M, .fn (.func f_words_Update_1) [] []] (.bool (bo (l = M))) := by
  have hll : l.length ≤ 140737488351232 := hl.1
  refine RC.val ?_
  intro S mf hS
  rw [HM.nil_add] at hS
  refine slices_EqualFunc___api_Word___api_Word_api_Word_api_Word__ok.out rfl ?_ (by simp [slices_EqualFunc___api_Word___api_Word_api_Word_api_Word__fi])
  unfold vcFun slices_EqualFunc___api_Word___api_Word_api_Word_api_Word__fi
  dsimp only
  unfold slices_EqualFunc___api_Word___api_Word_api_Word_api_Word__c
  dsimp only [argF]
  show vc _ _ _ [(0, .ros l.length (l.flatMap (encT tWord))), (1, .ros M.length (M.flatMap (encT tWord))), (2, .fn (.func f_words_Update_1) [] [])] S
  with_reducible (refine c_seq ?_)
  refine c_ops ?_
  refine r_op (o_mov (s_no ?_))
  dsimp only [putF, rd, Frame.get]
  refine r_nil (c_keep ?_)
  dsimp only [List.map]
  dsimp only [putF, rd, Frame.get]
  with_reducible (refine on_n ?_; refine c_seq ?_; refine c_seq ?_)
  refine c_ops ?_
  refine r_op (o_mov (s_no ?_))
  dsimp only [putF, rd, Frame.get]
  refine r_op (o_len rfl (s_no ?_))
  dsimp only [putF, rd, Frame.get]
  refine r_op (o_mov (s_no ?_))
  dsimp only [putF, rd, Frame.get]
  refine r_op (o_len rfl (s_no ?_))
  dsimp only [putF, rd, Frame.get]
  refine r_op (o_bin rfl (by first | trivial | (unfold inI64; omega)) (s_no ?_))
  dsimp only [putF, rd, Frame.get]
  refine r_nil (c_keep ?_)
  dsimp only [List.map]
  dsimp only [putF, rd, Frame.get]
  with_reducible (refine on_n ?_)
  refine c_ndec rfl (fun hc => ?_) (fun hc => ?_)
  · with_reducible (refine c_seq ?_)
    refine c_ops ?_
    refine r_op (o_mov (s_no ?_))
    dsimp only [putF, rd, Frame.get]
    refine r_nil (c_keep ?_)
    dsimp only [List.map]
    dsimp only [putF, rd, Frame.get]
    with_reducible (refine on_n ?_; refine c_ret ?_; refine on_r ?_)
    try dsimp only
    unfold slices_EqualFunc___api_Word___api_Word_api_Word_api_Word__r
    refine w_tmp (w_nil ?_)
    dsimp only [retV, Frame.get]
    refine ⟨HM.nil, ?_, by rw [HM.nil_add]; exact hS⟩
    have : bo (l = M) = false := bo_false.2 fun e => hc (by rw [e])
    rw [this]
  have hlen : l.length = M.length := by omega
  with_reducible (refine c_skip ?_; refine on_n ?_; refine c_seq ?_; refine c_seq ?_)
  refine c_ops ?_
  refine r_op (o_mov (s_no ?_))
  dsimp only [putF, rd, Frame.get]
  refine r_op (o_len rfl (s_no ?_))
  dsimp only [putF, rd, Frame.get]
  refine r_op (o_mov (s_no ?_))
  dsimp only [putF, rd, Frame.get]
  refine r_nil (c_keep ?_)
  dsimp only [List.map]
  dsimp only [putF, rd, Frame.get]
  with_reducible (refine on_n ?_; refine c_block ?_)
  refine c_loop (fun n xs S => ∃ (j : Nat) (X : HM), xs = [.int .i64 (j : Int)] ∧ j ≤ l.length ∧ n = l.length - j ∧ (∀ i, i < j → l[i]? = M[i]?) ∧ Has S (X + mf)) l.length ⟨0, HM.nil, rfl, Nat.zero_le _, rfl, fun i h => absurd h (Nat.not_lt_zero _), hS.eq (by rw [HM.nil_add])⟩ ?_
  clear hS
  rintro n xs S hl' ⟨j, X, rfl, hj, rfl, hsame, hS⟩
  dsimp only [zipF, List.map, Frame.get]
  with_reducible (refine c_seq ?_)
  refine c_ops ?_
  refine r_op (o_bin rfl (by first | trivial | (unfold inI64; omega)) (s_no ?_))
  dsimp only [putF, rd, Frame.get]
  refine r_nil (c_keep ?_)
  dsimp only [List.map]
  dsimp only [putF, rd, Frame.get]
  with_reducible (refine on_n ?_; refine c_seq ?_)
  refine c_dec rfl (fun hlt => ?_) (fun hlt => ?_)
  rotate_left
  · obtain rfl : j = l.length := by omega
    with_reducible (refine c_exit ?_; refine on_e ?_; refine on_e ?_; refine ob_e ?_; refine on_n ?_; refine c_seq ?_)
    refine c_ops ?_
    refine r_op (o_mov (s_no ?_))
    dsimp only [putF, rd, Frame.get]
    refine r_nil (c_keep ?_)
    dsimp only [List.map]
    dsimp only [putF, rd, Frame.get]
    with_reducible (refine on_n ?_; refine c_ret ?_)
    try dsimp only
    unfold slices_EqualFunc___api_Word___api_Word_api_Word_api_Word__r
    refine w_tmp (w_nil ?_)
    dsimp only [retV, Frame.get]
    refine ⟨X, ?_, hS⟩
    have : l = M := List.ext_getElem? fun i => by
      by_cases h : i < l.length
      · exact hsame i h
      · rw [List.getElem?_eq_none (by omega), List.getElem?_eq_none (by omega)]
    rw [bo_true.2 this]
  have hlt : j < l.length := by omega
  obtain ⟨x, hx⟩ : ∃ x, l[j]? = some x := ⟨_, List.getElem?_eq_getElem hlt⟩
  obtain ⟨y, hy⟩ : ∃ y, M[j]? = some y := ⟨_, List.getElem?_eq_getElem (by omega)⟩
  have tx := wcell_at hx
  have ty := wcell_at hy
  have hjM : j < M.length := by omega
  with_reducible (refine c_skip ?_; refine on_n ?_; refine c_seq ?_; refine c_block ?_; refine c_seq ?_)
  refine c_ops ?_
  refine r_op (o_mov (s_no ?_))
  dsimp only [putF, rd, Frame.get]
  refine r_op (o_iaddrR rfl rfl (by omega) (by assumption) (s_no ?_))
  dsimp only [putF, rd, Frame.get]
  refine r_op (o_loadR rfl rfl rfl (s_no ?_))
  dsimp only [putF, rd, Frame.get]
  refine r_op (o_alloc hS fun v8 l8 S hS => s_no ?_)
  dsimp only [putF, rd, Frame.get]
  refine r_op (o_mov (s_no ?_))
  dsimp only [putF, rd, Frame.get]
  refine r_op ?_
  refine o_store hS rfl rfl rfl rfl (by simp) fun S hS => ?_; (try dsimp only [putF, rd, Frame.get, setCells, over] at hS)
  refine s_no ?_
  dsimp only [putF, rd, Frame.get]
  refine r_nil (c_keep ?_)
  dsimp only [List.map]
  dsimp only [putF, rd, Frame.get]
  with_reducible (refine on_n ?_; refine c_seq ?_)
  refine c_ops ?_
  refine r_op (o_mov (s_no ?_))
  dsimp only [putF, rd, Frame.get]
  refine r_op (o_mov (s_no ?_))
  dsimp only [putF, rd, Frame.get]
  refine r_op (o_iaddrR rfl rfl (by omega) (by assumption) (s_no ?_))
  dsimp only [putF, rd, Frame.get]
  refine r_op (o_loadR rfl rfl rfl (s_no ?_))
  dsimp only [putF, rd, Frame.get]
  refine r_op (o_alloc hS fun v9 l9 S hS => s_no ?_)
  dsimp only [putF, rd, Frame.get]
  refine r_op ?_
  refine o_store hS rfl rfl rfl rfl (by simp) fun S hS => ?_; (try dsimp only [putF, rd, Frame.get, setCells, over] at hS)
  refine s_no ?_
  dsimp only [putF, rd, Frame.get]
  refine r_nil (c_keep ?_)
  dsimp only [List.map]
  dsimp only [putF, rd, Frame.get]
  with_reducible (refine on_n ?_; refine c_seq ?_)
  refine c_ops ?_
  refine r_op (o_mov (s_no ?_))
  dsimp only [putF, rd, Frame.get]
  refine r_op (o_load hS rfl rfl rfl rfl (s_no ?_))
  dsimp only [putF, rd, Frame.get]
  refine r_op (o_load hS rfl rfl rfl rfl (s_no ?_))
  dsimp only [putF, rd, Frame.get]
  refine r_op ?_
  refine (o_callv rfl ?_); dsimp only [List.map, putF, rd, Frame.get]; refine hU.plain (x, y) ⟨hl.2 x (List.mem_of_getElem? hx), hM.2 y (List.mem_of_getElem? hy)⟩ rfl ?_; show splitG _ (.bool (bo (x = y))) _
  refine s_no ?_
  refine r_op (o_not rfl (s_no ?_))
  dsimp only [putF, rd, Frame.get]
  refine r_nil (c_keep ?_)
  dsimp only [List.map]
  dsimp only [putF, rd, Frame.get]
  by_cases he : x = y
  · rw [bo_true.2 he]
    with_reducible (refine on_n ?_)
    refine c_bool (c := !true) rfl (fun h => by cases h) (fun _ => ?_)
    with_reducible (refine c_skip ?_; refine ob_n ?_; refine on_n ?_)
    refine c_ops ?_
    refine r_op (o_bin rfl (by first | trivial | (unfold inI64; omega)) (s_no ?_))
    dsimp only [putF, rd, Frame.get]
    refine r_op (o_mov (s_no ?_))
    dsimp only [putF, rd, Frame.get]
    refine r_nil (c_keep ?_)
    dsimp only [List.map]
    dsimp only [putF, rd, Frame.get]
    with_reducible (refine on_n ?_)
    refine ⟨l.length - (j + 1), by omega, j + 1, _, rfl, by omega, rfl, fun i hi => ?_, (hS.eq (by ac_rfl) : Has S ((pt l9 (.row v9 0 [.str y.1, .ros y.2.length (y.2.flatMap (encT tI))]) + (pt l8 (.row v8 0 [.str x.1, .ros x.2.length (x.2.flatMap (encT tI))]) + X)) + mf))⟩
    by_cases c : i = j
    · subst c; rw [hx, hy, he]
    · exact hsame i (by omega)
  · rw [bo_false.2 he]
    with_reducible (refine on_n ?_)
    refine c_bool (c := !false) rfl (fun _ => ?_) (fun h => by cases h)
    with_reducible (refine c_seq ?_)
    refine c_ops ?_
    refine r_op (o_mov (s_no ?_))
    dsimp only [putF, rd, Frame.get]
    refine r_nil (c_keep ?_)
    dsimp only [List.map]
    dsimp only [putF, rd, Frame.get]
    with_reducible (refine on_n ?_; refine c_ret ?_; refine ob_r ?_; refine on_r ?_; refine on_r ?_; refine ob_r ?_; refine on_r ?_)
    try dsimp only
    unfold slices_EqualFunc___api_Word___api_Word_api_Word_api_Word__r
    refine w_tmp (w_nil ?_)
    dsimp only [retV, Frame.get]
    refine ⟨pt l9 (.row v9 0 [.str y.1, .ros y.2.length (y.2.flatMap (encT tI))]) + (pt l8 (.row v8 0 [.str x.1, .ros x.2.length (x.2.flatMap (encT tI))]) + X), ?_, hS.eq (by ac_rfl)⟩
    have : l ≠ M := fun e => he (by rw [e, hy] at hx; exact (Option.some.inj hx).symm)
    rw [bo_false.2 this]
end Go.Proofs.Ytmpmlnjiolbplaa.U
