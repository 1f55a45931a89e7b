/- Many finds at once: walked. Conditions: none. -/
import Derived.Test.YtfelfimcnidplaaF3
import Derived.Test.YtfelfimcnidplaaVyU
import Derived.Test.YtfelfimcnidplaaLayF
set_option linter.unusedVariables false
set_option linter.unusedSimpArgs false
set_option maxRecDepth 100000
namespace Go.Proofs.Ytfelfimcnidplaa.F
open Go.Vc Go.Fu
theorem hits_con : ∃ ρ, SlLaysF0.n6 Try.prog ρ ∧ ρ.f 6 = f_slices_SortFunc___api_Hit_api_Hit_ ∧ (∀ w, (isAgg (ρ.t 24)).run Try.prog w = .ok true w) ∧ (∀ w, (Go.sizeOf (ρ.t 24)).run Try.prog w = .ok 2 w) := ⟨_, Try.sortHits, rfl, fun _ => by kernel_rfl, fun _ => by kernel_rfl⟩
theorem hsort_hc (h1 : Con Try.prog f_find_Many_1 find_Many_1_ct) {p v : Nat} {ls : List Hit} (hs : ls.Pairwise fun a b => a.1 < b.1) (hl : ls.length < 4611686018427387904) :
    HC Try.prog f_slices_SortFunc___api_Hit_api_Hit_ [.sl p v 0 ls.length, .fn (.func f_find_Many_1) [] []] (pt p (.row v 2 (pairsC ls))) fun r m' => r = .tup [] ∧ m' = pt p (.row v 2 (pairsC ls)) := by
  obtain ⟨ρ, L, e, aE, zE⟩ := hits_con
  rw [← e]
  intro S mf hS
  exact (psort_calls trivial L aE zE (by rw [e]; kernel_rfl) (c := cmpI) (fun a b => cmpI_neg) hS.get h1.1 (fun x y => h1.plain (x, y) trivial rfl (K := fun r _ => r = .int .i64 (cmpI x.1 y.1)) rfl) hs hl).mono fun r S' ⟨h1, h2⟩ => ⟨_, ⟨h1, rfl⟩, h2 ▸ hS⟩
theorem strs_e (fs : List Bytes) : fs.flatMap (encT .str) = strsF fs := by
  induction fs with
  | nil => rfl
  | cons a l ih => exact congrArg (fun z => AVal.str a :: z) ih
theorem pairs_e (ls : List Hit) : pairsC ls = ls.flatMap (encT tHit) := by
  induction ls with
  | nil => rfl
  | cons a l ih => exact congrArg (fun z => AVal.int .i64 a.1 :: AVal.int .i64 a.2 :: z) ih
theorem nds_mid {N : List Nd} {c : Nd} (h : c ∈ N) : ∃ R, ndsM N = pt c.p (.row c.v 0 [.map c.lm c.vm, bkA c.bk, .int .i64 c.fd, .int .i64 (c.s.length : Int)]) + (pt c.lm (.mapo c.vm (esA c.es)) + R) := by
  obtain ⟨A, B, rfl⟩ := nd_split h
  exact ⟨ndsM A + ndsM B, ndsM_mid A B c⟩
theorem sub_strs (fs : List Bytes) (i : Nat) (hi : i ≤ fs.length) : AVal.ros i (subL (strsF fs) 0 i) = encA (.sl .str) (fs.take i) := by
  show _ = AVal.ros (fs.take i).length ((fs.take i).flatMap (encT .str))
  rw [strs_e, List.length_take, Nat.min_eq_left hi]
  congr 1
  unfold subL strsF
  rw [List.drop_zero, List.map_take]
set_option maxHeartbeats 4000000 in

theorem Many_walk (hF : Con Try.prog f_find_fault find_fault_ct) (hC : Con Try.prog f_slices_Contains___string_string_ slices_Contains___string_string__ct) (h1 : Con Try.prog f_find_Many_1 find_Many_1_ct)
    {text : Bytes} {fs : List Bytes} (hp : fmPre text fs) : HC Try.prog f_find_Many [.str text, .ros fs.length (strsF fs)] HM.nil fun r m' => (∃ c, r = .tup [.nils, .int .i64 c] ∧ findMany text fs = ([], c)) ∨ ∃ p v ls X, r = .tup [.sl p v 0 ls.length, .int .i64 0] ∧ findMany text fs = (ls, 0) ∧ m' = pt p (.row v 2 (pairsC ls)) + X := by
  obtain ⟨p1, p2, p3⟩ := hp
  have p1' : text.length ≤ 140737488351232 := p1
  have p2' : fs.length ≤ 140737488351232 := p2
  intro S mf hS
  rw [HM.nil_add] at hS
  refine find_Many_ok.out rfl ?_ (by simp [find_Many_fi])
  unfold vcFun find_Many_fi
  dsimp only
  unfold find_Many_c
  dsimp only [argF]
  with_reducible (refine c_seq ?_)
  refine c_ops ?_
  refine r_op (o_mov (s_no ?_))
  dsimp only [putF, rd, Frame.get]
  refine r_op (o_mov (s_no ?_))
  dsimp only [putF, rd, Frame.get]
  refine r_nil (c_keep ?_)
  dsimp only [List.map]
  dsimp only [putF, rd, Frame.get]
  with_reducible (refine on_n ?_; refine c_seq ?_; refine c_seq ?_)
  by_cases hsz : 600 < text.length ∨ 20 < fs.length
  · have hd : findMany text fs = ([], 1) := by unfold findMany; rw [if_pos hsz]
    by_cases ht : 600 < text.length
    · refine c_ops ?_
      refine r_op (o_mov (s_no ?_))
      dsimp only [putF, rd, Frame.get]
      refine r_op (o_len rfl (s_no ?_))
      dsimp only [putF, rd, Frame.get]
      refine r_op (o_bin rfl (by first | trivial | (unfold inI64; omega)) (s_no ?_))
      dsimp only [putF, rd, Frame.get]
      refine r_op ?_
      refine o_mov (s_dec (fun hg => ?_) (fun hg => by exfalso; omega))
      dsimp only [putF, rd, Frame.get]
      ((with_reducible refine r_sf ?_ ?_); (· rfl))
      dsimp only [putF, rd, Frame.get]
      ((with_reducible refine r_sf ?_ ?_); (· rfl))
      dsimp only [putF, rd, Frame.get]
      ((with_reducible refine r_sf ?_ ?_); (· rfl))
      dsimp only [putF, rd, Frame.get]
      refine r_op (o_pickT rfl (s_no ?_))
      dsimp only [putF, rd, Frame.get]
      refine r_nil (c_keep ?_)
      dsimp only [List.map]
      dsimp only [putF, rd, Frame.get]
      with_reducible (refine on_n ?_)
      refine c_bool (c := true) rfl (fun _ => ?_) (fun h => by cases h)
      with_reducible (refine c_seq ?_)
      refine c_ops ?_
      refine r_op (o_mov (s_no ?_))
      dsimp only [putF, rd, Frame.get]
      refine r_op (o_mov (s_no ?_))
      dsimp only [putF, rd, Frame.get]
      refine r_nil (c_keep ?_)
      dsimp only [List.map]
      dsimp only [putF, rd, Frame.get]
      with_reducible (refine on_n ?_; refine c_ret ?_; refine on_r ?_)
      try dsimp only
      unfold find_Many_r
      refine w_tmp (w_tmp (w_nil ?_))
      dsimp only [retV, Frame.get]
      exact ⟨HM.nil, .inl ⟨1, rfl, hd⟩, by rw [HM.nil_add]; exact hS⟩
    · refine c_ops ?_
      refine r_op (o_mov (s_no ?_))
      dsimp only [putF, rd, Frame.get]
      refine r_op (o_len rfl (s_no ?_))
      dsimp only [putF, rd, Frame.get]
      refine r_op (o_bin rfl (by first | trivial | (unfold inI64; omega)) (s_no ?_))
      dsimp only [putF, rd, Frame.get]
      refine r_op ?_
      refine o_mov (s_dec (fun hg => by exfalso; omega) (fun hg => ?_))
      dsimp only [putF, rd, Frame.get]
      refine r_ff rfl (o_mov (s_no ?_))
      dsimp only [putF, rd, Frame.get]
      refine r_ff rfl (o_len rfl (s_no ?_))
      dsimp only [putF, rd, Frame.get]
      refine r_ff rfl (o_bin rfl (by first | trivial | (unfold inI64; omega)) (s_no ?_))
      dsimp only [putF, rd, Frame.get]
      refine r_op (o_pickF rfl (s_no ?_))
      dsimp only [putF, rd, Frame.get]
      refine r_nil (c_keep ?_)
      dsimp only [List.map]
      dsimp only [putF, rd, Frame.get]
      with_reducible (refine on_n ?_)
      refine c_dec rfl (fun _ => ?_) (fun hc => by exfalso; omega)
      with_reducible (refine c_seq ?_)
      refine c_ops ?_
      refine r_op (o_mov (s_no ?_))
      dsimp only [putF, rd, Frame.get]
      refine r_op (o_mov (s_no ?_))
      dsimp only [putF, rd, Frame.get]
      refine r_nil (c_keep ?_)
      dsimp only [List.map]
      dsimp only [putF, rd, Frame.get]
      with_reducible (refine on_n ?_; refine c_ret ?_; refine on_r ?_)
      try dsimp only
      unfold find_Many_r
      refine w_tmp (w_tmp (w_nil ?_))
      dsimp only [retV, Frame.get]
      exact ⟨HM.nil, .inl ⟨1, rfl, hd⟩, by rw [HM.nil_add]; exact hS⟩
  refine c_ops ?_
  refine r_op (o_mov (s_no ?_))
  dsimp only [putF, rd, Frame.get]
  refine r_op (o_len rfl (s_no ?_))
  dsimp only [putF, rd, Frame.get]
  refine r_op (o_bin rfl (by first | trivial | (unfold inI64; omega)) (s_no ?_))
  dsimp only [putF, rd, Frame.get]
  refine r_op ?_
  refine o_mov (s_dec (fun hg => by exfalso; omega) (fun hg => ?_))
  dsimp only [putF, rd, Frame.get]
  refine r_ff rfl (o_mov (s_no ?_))
  dsimp only [putF, rd, Frame.get]
  refine r_ff rfl (o_len rfl (s_no ?_))
  dsimp only [putF, rd, Frame.get]
  refine r_ff rfl (o_bin rfl (by first | trivial | (unfold inI64; omega)) (s_no ?_))
  dsimp only [putF, rd, Frame.get]
  refine r_op (o_pickF rfl (s_no ?_))
  dsimp only [putF, rd, Frame.get]
  refine r_nil (c_keep ?_)
  dsimp only [List.map]
  dsimp only [putF, rd, Frame.get]
  with_reducible (refine on_n ?_)
  refine c_dec rfl (fun hc => by exfalso; omega) (fun _ => ?_)
  with_reducible (refine c_skip ?_; refine on_n ?_; refine c_seq ?_; refine c_seq ?_)
  refine c_ops ?_
  refine r_op (o_mov (s_no ?_))
  dsimp only [putF, rd, Frame.get]
  refine r_op (o_len rfl (s_no ?_))
  dsimp only [putF, rd, Frame.get]
  refine r_op (o_mov (s_no ?_))
  dsimp only [putF, rd, Frame.get]
  refine r_nil (c_keep ?_)
  dsimp only [List.map]
  dsimp only [putF, rd, Frame.get]
  with_reducible (refine on_n ?_; refine c_block ?_)
  refine c_loop (fun n xs S => ∃ i : Nat, xs = [.int .i64 (i : Int)] ∧ i ≤ fs.length ∧ n = fs.length - i ∧ fmFault text (fs.take i) (fs.drop i) = fmFault text [] fs ∧ Has S mf) fs.length ⟨0, rfl, Nat.zero_le _, rfl, rfl, hS⟩ ?_
  clear hS
  rintro n xs S hl' ⟨i, rfl, hi, rfl, hff, hS⟩
  dsimp only [zipF, List.map, Frame.get]
  with_reducible (refine c_seq ?_)
  refine c_ops ?_
  refine r_op (o_bin rfl (by first | trivial | (unfold inI64; omega)) (s_no ?_))
  dsimp only [putF, rd, Frame.get]
  refine r_nil (c_keep ?_)
  dsimp only [List.map]
  dsimp only [putF, rd, Frame.get]
  with_reducible (refine on_n ?_; refine c_seq ?_)
  refine c_dec rfl (fun hlt => ?_) (fun hlt => ?_)
  · have hlt : i < fs.length := by omega
    obtain ⟨s, hs⟩ : ∃ s, fs[i]? = some s := ⟨_, List.getElem?_eq_getElem hlt⟩
    have ts := strF_at hs
    have hst := fm_step text fs hlt
    rw [(List.getElem?_eq_some_iff.1 hs).2, hff] at hst
    have hln : fs.length * (0 + 1) ≤ (strsF fs).length := by simp
    with_reducible (refine c_skip ?_; refine on_n ?_; refine c_seq ?_; refine c_block ?_; refine c_seq ?_)
    refine c_ops ?_
    refine r_op (o_mov (s_no ?_))
    dsimp only [putF, rd, Frame.get]
    refine r_op (o_iaddrR rfl rfl (by omega) (by assumption) (s_no ?_))
    dsimp only [putF, rd, Frame.get]
    refine r_op (o_loadR rfl rfl rfl (s_no ?_))
    dsimp only [putF, rd, Frame.get]
    refine r_op (o_mov (s_no ?_))
    dsimp only [putF, rd, Frame.get]
    refine r_op (o_mov (s_no ?_))
    dsimp only [putF, rd, Frame.get]
    refine r_nil (c_keep ?_)
    dsimp only [List.map]
    dsimp only [putF, rd, Frame.get]
    with_reducible (refine on_n ?_; refine c_seq ?_; refine c_seq ?_)
    refine c_ops ?_
    refine r_op (o_mov (s_no ?_))
    dsimp only [putF, rd, Frame.get]
    refine r_op (o_mov (s_no ?_))
    dsimp only [putF, rd, Frame.get]
    refine r_op (o_call ?_)
    dsimp only [List.map, putF, rd, Frame.get]
    refine hF.plain (text, s) trivial rfl ?_; show splitG _ (.int .i64 (findFault text s)) _
    refine s_no ?_
    refine r_op (o_mov (s_no ?_))
    dsimp only [putF, rd, Frame.get]
    refine r_nil (c_keep ?_)
    dsimp only [List.map]
    dsimp only [putF, rd, Frame.get]
    with_reducible (refine on_n ?_; refine c_seq ?_)
    refine c_ops ?_
    refine r_op (o_mov (s_no ?_))
    dsimp only [putF, rd, Frame.get]
    refine r_op (o_bin rfl (by first | trivial | (unfold inI64; omega)) (s_no ?_))
    dsimp only [putF, rd, Frame.get]
    refine r_nil (c_keep ?_)
    dsimp only [List.map]
    dsimp only [putF, rd, Frame.get]
    with_reducible (refine on_n ?_)
    refine c_ndec rfl (fun hf => ?_) (fun hf => ?_)
    · with_reducible (refine c_seq ?_)
      refine c_ops ?_
      refine r_op (o_mov (s_no ?_))
      dsimp only [putF, rd, Frame.get]
      refine r_op (o_mov (s_no ?_))
      dsimp only [putF, rd, Frame.get]
      refine r_op (o_mov (s_no ?_))
      dsimp only [putF, rd, Frame.get]
      refine r_nil (c_keep ?_)
      dsimp only [List.map]
      dsimp only [putF, rd, Frame.get]
      with_reducible (refine on_n ?_; refine c_ret ?_; refine on_r ?_; refine ob_r ?_; refine on_r ?_; refine on_r ?_; refine ob_r ?_; refine on_r ?_)
      try dsimp only
      unfold find_Many_r
      refine w_tmp (w_tmp (w_nil ?_))
      dsimp only [retV, Frame.get]
      rw [if_pos hf] at hst
      exact ⟨HM.nil, .inl ⟨_, rfl, by unfold findMany; rw [if_neg hsz, hst, if_pos hf]⟩, by rw [HM.nil_add]; exact hS⟩
    rw [if_neg (by simpa using hf)] at hst
    with_reducible (refine c_skip ?_; refine on_n ?_; refine c_seq ?_)
    refine c_ops ?_
    refine r_op (o_mov (s_no ?_))
    dsimp only [putF, rd, Frame.get]
    refine r_op (o_mov (s_no ?_))
    dsimp only [putF, rd, Frame.get]
    refine r_op (o_sliceR rfl ⟨_, rfl⟩ rfl (by omega) (by omega) (by assumption) (s_no ?_))
    dsimp only [putF, rd, Frame.get]
    simp only [Nat.zero_mul, Nat.mul_zero, Nat.mul_one, Nat.add_zero, Nat.zero_add, Nat.sub_zero, Nat.reduceAdd, Nat.reduceMul]
    refine r_op (o_mov (s_no ?_))
    dsimp only [putF, rd, Frame.get]
    refine r_op (o_call ?_)
    dsimp only [List.map, putF, rd, Frame.get]
    rw [sub_strs fs i (by omega)]; refine hC.plain (fs.take i, s) ⟨by show (fs.take i).length ≤ _; rw [List.length_take]; omega, fun f hf => p3 f (List.mem_of_mem_take hf)⟩ rfl ?_; show splitG _ (.bool (inS (fs.take i) s)) _
    refine s_no ?_
    refine r_nil (c_keep ?_)
    dsimp only [List.map]
    dsimp only [putF, rd, Frame.get]
    with_reducible (refine on_n ?_)
    by_cases hm : s ∈ fs.take i
    · rw [show inS (fs.take i) s = true from bo_true.2 hm]
      refine c_bool (c := true) rfl (fun _ => ?_) (fun h => by cases h)
      with_reducible (refine c_seq ?_)
      refine c_ops ?_
      refine r_op (o_mov (s_no ?_))
      dsimp only [putF, rd, Frame.get]
      refine r_op (o_mov (s_no ?_))
      dsimp only [putF, rd, Frame.get]
      refine r_nil (c_keep ?_)
      dsimp only [List.map]
      dsimp only [putF, rd, Frame.get]
      with_reducible (refine on_n ?_; refine c_ret ?_; refine ob_r ?_; refine on_r ?_; refine on_r ?_; refine ob_r ?_; refine on_r ?_)
      try dsimp only
      unfold find_Many_r
      refine w_tmp (w_tmp (w_nil ?_))
      dsimp only [retV, Frame.get]
      rw [if_pos hm] at hst
      exact ⟨HM.nil, .inl ⟨4, rfl, by unfold findMany; rw [if_neg hsz, hst, if_pos (by decide)]⟩, by rw [HM.nil_add]; exact hS⟩
    rw [show inS (fs.take i) s = false from bo_false.2 hm]
    refine c_bool (c := false) rfl (fun h => by cases h) (fun _ => ?_)
    with_reducible (refine c_skip ?_; refine ob_n ?_; refine on_n ?_)
    refine c_ops ?_
    refine r_op (o_bin rfl (by first | trivial | (unfold inI64; omega)) (s_no ?_))
    dsimp only [putF, rd, Frame.get]
    refine r_op (o_mov (s_no ?_))
    dsimp only [putF, rd, Frame.get]
    refine r_nil (c_keep ?_)
    dsimp only [List.map]
    dsimp only [putF, rd, Frame.get]
    with_reducible (refine on_n ?_)
    rw [if_neg hm] at hst
    exact ⟨fs.length - (i + 1), by omega, i + 1, rfl, by omega, rfl, hst.symm, hS⟩
  obtain rfl : i = fs.length := by omega
  have hf0 : fmFault text [] fs = 0 := by rw [← hff, List.drop_length]; rfl
  obtain ⟨hnd, hall⟩ := fm_all hf0
  have hd : findMany text fs = (manyUp text fs text.length, 0) := by unfold findMany; rw [if_neg hsz, if_neg (by rw [hf0]; decide)]
  with_reducible (refine c_exit ?_; refine on_e ?_; refine on_e ?_; refine ob_e ?_; refine on_n ?_; refine c_seq ?_)
  refine c_ops ?_
  refine r_op (o_newnil hS fun v9 l9 S hS => s_no ?_)
  dsimp only [putF, rd, Frame.get]
  refine r_nil (c_keep ?_)
  dsimp only [List.map]
  dsimp only [putF, rd, Frame.get]
  with_reducible (refine on_n ?_; refine c_seq ?_)
  refine c_ops ?_
  refine r_op (o_mov (s_no ?_))
  dsimp only [putF, rd, Frame.get]
  refine r_op (o_call ?_)
  dsimp only [List.map, putF, rd, Frame.get]
  refine (machine_walk hnd (by omega) hall).more hS fun r m' S h hS => ?_; obtain ⟨N, X, hsh, hfd, hbk, ⟨r0, hr0, er0, rfl⟩, rfl⟩ := h
  refine s_no ?_
  refine r_op (o_mov (s_no ?_))
  dsimp only [putF, rd, Frame.get]
  refine r_nil (c_keep ?_)
  dsimp only [List.map]
  dsimp only [putF, rd, Frame.get]
  with_reducible (refine on_n ?_; refine c_seq ?_; refine c_seq ?_)
  refine c_ops ?_
  refine r_op (o_mov (s_no ?_))
  dsimp only [putF, rd, Frame.get]
  refine r_op (o_len rfl (s_no ?_))
  dsimp only [putF, rd, Frame.get]
  refine r_op (o_mov (s_no ?_))
  dsimp only [putF, rd, Frame.get]
  refine r_nil (c_keep ?_)
  dsimp only [List.map]
  dsimp only [putF, rd, Frame.get]
  with_reducible (refine on_n ?_; refine c_block ?_)
  refine c_loop (fun n xs S => ∃ (i : Nat) (c : Nd) (p v : Nat) (Y : HM), xs = [.sl p v 0 (manyUp text fs i).length, .ptr c.p c.v 0, .int .i64 (i : Int)] ∧ i ≤ text.length ∧ n = text.length - i ∧ c ∈ N ∧ c.s = lsuf fs (text.take i) ∧ Has S (ndsM N + (pt p (.row v 2 (pairsC (manyUp text fs i))) + (Y + mf)))) text.length ⟨0, r0, l9, v9, X, rfl, Nat.zero_le _, rfl, hr0, er0, hS.eq (by show _ = _ + (pt l9 (.row v9 2 []) + _); ac_rfl)⟩ ?_
  clear hS
  rintro n xs S hl2 ⟨i, c, p, v, Y, rfl, hi2, rfl, hc, hcs, hS⟩
  dsimp only [zipF, List.map, Frame.get]
  with_reducible (refine c_seq ?_)
  refine c_ops ?_
  refine r_op (o_bin rfl (by first | trivial | (unfold inI64; omega)) (s_no ?_))
  dsimp only [putF, rd, Frame.get]
  refine r_nil (c_keep ?_)
  dsimp only [List.map]
  dsimp only [putF, rd, Frame.get]
  with_reducible (refine on_n ?_; refine c_seq ?_)
  refine c_dec rfl (fun hlt2 => ?_) (fun hlt2 => ?_)
  rotate_left
  · obtain rfl : i = text.length := by omega
    with_reducible (refine c_exit ?_; refine on_e ?_; refine on_e ?_; refine ob_e ?_; refine on_n ?_; refine c_seq ?_)
    refine c_ops ?_
    refine r_op (o_mov (s_no ?_))
    dsimp only [putF, rd, Frame.get]
    refine r_op (o_mov (s_no ?_))
    dsimp only [putF, rd, Frame.get]
    refine r_op (o_mov (s_no ?_))
    dsimp only [putF, rd, Frame.get]
    refine r_nil (c_keep ?_)
    dsimp only [List.map]
    dsimp only [putF, rd, Frame.get]
    with_reducible (refine on_n ?_; refine c_ret ?_)
    try dsimp only
    unfold find_Many_r
    refine w_tmp (w_tmp (w_nil ?_))
    dsimp only [retV, Frame.get]
    exact ⟨_, .inr ⟨p, v, _, ndsM N + Y, rfl, hd, rfl⟩, hS.eq (by ac_rfl)⟩
  have hlt2 : i < text.length := by omega
  obtain ⟨b, hb⟩ : ∃ b, text[i]? = some b := ⟨_, List.getElem?_eq_getElem hlt2⟩
  have hstep := step_walk (fs := fs) hsh hc (fun m hm _ => hbk m hm) b
  have hti : text.take (i + 1) = text.take i ++ [b] := by rw [List.take_add_one, hb]; rfl
  have hml := manyUp_len text fs i (by omega)
  have hch := chain_len fs ((i + 1 : Nat) : Int) (text.take (i + 1))
  rw [List.length_take] at hch
  with_reducible (refine c_skip ?_; refine on_n ?_; refine c_seq ?_; refine c_block ?_; refine c_seq ?_)
  refine c_ops ?_
  refine r_op (o_mov (s_no ?_))
  dsimp only [putF, rd, Frame.get]
  refine r_op (o_mov (s_no ?_))
  dsimp only [putF, rd, Frame.get]
  refine r_nil (c_keep ?_)
  dsimp only [List.map]
  dsimp only [putF, rd, Frame.get]
  with_reducible (refine on_n ?_; refine c_seq ?_)
  refine c_ops ?_
  refine r_op (o_mov (s_no ?_))
  dsimp only [putF, rd, Frame.get]
  refine r_op (o_mov (s_no ?_))
  dsimp only [putF, rd, Frame.get]
  refine r_op (o_mov (s_no ?_))
  dsimp only [putF, rd, Frame.get]
  refine r_op (o_indexS rfl rfl (by assumption) (s_no ?_))
  dsimp only [putF, rd, Frame.get]
  refine r_op (o_call ?_)
  dsimp only [List.map, putF, rd, Frame.get]
  refine HC.use (a := ndsM N) hstep hS ?_; rintro r m' S ⟨c2, hc2, hc2s, rfl, rfl⟩ hS
  refine s_no ?_
  refine r_op (o_mov (s_no ?_))
  dsimp only [putF, rd, Frame.get]
  refine r_nil (c_keep ?_)
  dsimp only [List.map]
  dsimp only [putF, rd, Frame.get]
  rw [hcs, lsuf_snoc, ← hti] at hc2s
  with_reducible (refine on_n ?_; refine c_seq ?_)
  refine c_ops ?_
  refine r_op (o_newnil hS fun v12 l12 S hS => s_no ?_)
  dsimp only [putF, rd, Frame.get]
  refine r_nil (c_keep ?_)
  dsimp only [List.map]
  dsimp only [putF, rd, Frame.get]
  with_reducible (refine on_n ?_; refine c_seq ?_; refine c_seq ?_)
  refine c_ops ?_
  refine r_op (o_mov (s_no ?_))
  dsimp only [putF, rd, Frame.get]
  refine r_op (o_mov (s_no ?_))
  dsimp only [putF, rd, Frame.get]
  refine r_nil (c_keep ?_)
  dsimp only [List.map]
  dsimp only [putF, rd, Frame.get]
  with_reducible (refine on_n ?_; refine c_block ?_)
  refine c_loop (fun n xs S => ∃ (q : Nd) (hs : List Hit) (p2 v2 : Nat), xs = [.sl p2 v2 0 hs.length, .ptr q.p q.v 0] ∧ n = q.s.length ∧ q ∈ N ∧ q.s.length ≤ 600 ∧ hs ++ chain fs ((i + 1 : Nat) : Int) q.s = manyAt text fs (i + 1) ∧ Has S (ndsM N + (pt p2 (.row v2 2 (pairsC hs)) + (pt p (.row v 2 (pairsC (manyUp text fs i))) + (Y + mf))))) c2.s.length ⟨c2, [], l12, v12, rfl, rfl, hc2, by have := lsuf_len fs (text.take (i + 1)); rw [hc2s]; rw [List.length_take] at this; omega, by rw [List.nil_append, hc2s, chain_lsuf]; rfl, hS.eq (by show _ = _ + (pt l12 (.row v12 2 []) + _); ac_rfl)⟩ ?_
  clear hS
  rintro n xs S hl3 ⟨q, hs, p2, v2, rfl, rfl, hq, hql, hcat, hS⟩
  dsimp only [zipF, List.map, Frame.get]
  have hhs : hs.length ≤ 600 := by
    have := congrArg List.length hcat
    unfold manyAt at this
    rw [List.length_append] at this; omega
  obtain ⟨R, hR⟩ := nds_mid hq
  obtain ⟨q2, hq2, hq2s, hqb⟩ := hbk q hq
  rw [hqb] at hR
  unfold bkA at hR
  with_reducible (refine c_seq ?_; refine c_seq ?_)
  rw [hR] at hS
  refine c_ops ?_
  refine r_op (o_mov (s_no ?_))
  dsimp only [putF, rd, Frame.get]
  refine r_op (o_nilchk rfl (s_no ?_))
  dsimp only [putF, rd, Frame.get]
  refine r_op (o_faddr rfl (s_no ?_))
  dsimp only [putF, rd, Frame.get]
  simp only [Nat.zero_mul, Nat.mul_zero, Nat.mul_one, Nat.add_zero, Nat.zero_add, Nat.sub_zero, Nat.reduceAdd, Nat.reduceMul]
  refine r_op (o_load hS rfl rfl rfl rfl (s_no ?_))
  dsimp only [putF, rd, Frame.get]
  refine r_op (o_bin rfl (by first | trivial | (unfold inI64; omega)) (s_no ?_))
  dsimp only [putF, rd, Frame.get]
  refine r_nil (c_keep ?_)
  dsimp only [List.map]
  dsimp only [putF, rd, Frame.get]
  with_reducible (refine on_n ?_)
  refine c_dec rfl (fun hpos => ?_) (fun hpos => ?_)
  · obtain ⟨a, x, hax⟩ : ∃ a x, q.s = a :: x := by
      cases h : q.s with
      | nil => rw [h] at hpos; simp at hpos
      | cons a x => exact ⟨a, x, rfl⟩
    have hcb := chain_back fs ((i + 1 : Nat) : Int) (a := a) (x := x)
    rw [← hax] at hcb
    have hx2 : lsuf fs x = q2.s := by rw [hq2s, hax]; rfl
    rw [hx2] at hcb
    have hfq := hfd q hq
    have hlt4 : q2.s.length < q.s.length := by
      have := lsuf_len fs x
      rw [← hx2, hax, List.length_cons]; omega
    with_reducible (refine c_skip ?_; refine on_n ?_)
    refine c_join fun K1 hK1 => ?_
    have rest : ∀ (hs : List Hit) (p2 v2 : Nat) (S : Store), hs ++ chain fs ((i + 1 : Nat) : Int) q2.s = manyAt text fs (i + 1) → Has S ((pt q.p (.row q.v 0 [.map q.lm q.vm, .ptr q2.p q2.v 0, .int .i64 q.fd, .int .i64 (q.s.length : Int)]) + (pt q.lm (.mapo q.vm (esA q.es)) + R)) + (pt p2 (.row v2 2 (pairsC hs)) + (pt p (.row v 2 (pairsC (manyUp text fs i))) + (Y + mf)))) → K1 [.sl p2 v2 0 hs.length] S := by
      intro hs p2 v2 S h1 hS
      refine hK1 _ _ rfl ?_
      dsimp only [zipF, List.map, Frame.get]
      refine c_ops ?_
      refine r_op (o_mov (s_no ?_))
      dsimp only [putF, rd, Frame.get]
      refine r_op (o_nilchk rfl (s_no ?_))
      dsimp only [putF, rd, Frame.get]
      refine r_op (o_faddr rfl (s_no ?_))
      dsimp only [putF, rd, Frame.get]
      simp only [Nat.zero_mul, Nat.mul_zero, Nat.mul_one, Nat.add_zero, Nat.zero_add, Nat.sub_zero, Nat.reduceAdd, Nat.reduceMul]
      refine r_op (o_load hS rfl rfl rfl rfl (s_no ?_))
      dsimp only [putF, rd, Frame.get]
      refine r_op (o_mov (s_no ?_))
      dsimp only [putF, rd, Frame.get]
      refine r_nil (c_keep ?_)
      dsimp only [List.map]
      dsimp only [putF, rd, Frame.get]
      with_reducible (refine on_n ?_)
      exact ⟨q2.s.length, hlt4, q2, hs, p2, v2, rfl, rfl, hq2, by omega, h1, by rw [hR]; exact hS⟩
    with_reducible (refine c_block ?_; refine c_seq ?_)
    refine c_ops ?_
    refine r_op (o_mov (s_no ?_))
    dsimp only [putF, rd, Frame.get]
    refine r_op (o_nilchk rfl (s_no ?_))
    dsimp only [putF, rd, Frame.get]
    refine r_op (o_faddr rfl (s_no ?_))
    dsimp only [putF, rd, Frame.get]
    simp only [Nat.zero_mul, Nat.mul_zero, Nat.mul_one, Nat.add_zero, Nat.zero_add, Nat.sub_zero, Nat.reduceAdd, Nat.reduceMul]
    refine r_op (o_load hS rfl rfl rfl rfl (s_no ?_))
    dsimp only [putF, rd, Frame.get]
    refine r_op (o_bin rfl (by first | trivial | (unfold inI64; omega)) (s_no ?_))
    dsimp only [putF, rd, Frame.get]
    refine r_nil (c_keep ?_)
    dsimp only [List.map]
    dsimp only [putF, rd, Frame.get]
    with_reducible (refine on_n ?_)
    refine c_dec rfl (fun hfp => ?_) (fun hfp => ?_)
    · have hmem : q.s ∈ fs := Classical.byContradiction fun hno => by
        rw [hfq] at hfp
        unfold fdOf at hfp
        rw [List.take_length, if_neg hno] at hfp
        exact absurd hfp (by decide)
      have hfe : q.fd = idxI fs q.s := by rw [hfq]; unfold fdOf; rw [List.take_length, if_pos hmem]
      refine c_opsD0 hS fun S hS => ?_
      refine d_zero ?_
      refine r_op (o_mov (s_no ?_))
      dsimp only [putF, rd, Frame.get]
      refine r_op (o_mov (s_no ?_))
      dsimp only [putF, rd, Frame.get]
      refine r_op (o_bin rfl (by first | trivial | (unfold inI64; omega)) (s_no ?_))
      dsimp only [putF, rd, Frame.get]
      refine r_op (o_mov (s_no ?_))
      dsimp only [putF, rd, Frame.get]
      refine r_op (o_nilchk rfl (s_no ?_))
      dsimp only [putF, rd, Frame.get]
      refine r_op (o_faddr rfl (s_no ?_))
      dsimp only [putF, rd, Frame.get]
      simp only [Nat.zero_mul, Nat.mul_zero, Nat.mul_one, Nat.add_zero, Nat.zero_add, Nat.sub_zero, Nat.reduceAdd, Nat.reduceMul]
      refine r_op (o_load hS rfl rfl rfl rfl (s_no ?_))
      dsimp only [putF, rd, Frame.get]
      refine r_op (o_bin rfl (by first | trivial | (unfold inI64; omega)) (s_no ?_))
      dsimp only [putF, rd, Frame.get]
      refine r_op (o_mov (s_no ?_))
      dsimp only [putF, rd, Frame.get]
      refine r_op (o_nilchk rfl (s_no ?_))
      dsimp only [putF, rd, Frame.get]
      refine r_op (o_faddr rfl (s_no ?_))
      dsimp only [putF, rd, Frame.get]
      simp only [Nat.zero_mul, Nat.mul_zero, Nat.mul_one, Nat.add_zero, Nat.zero_add, Nat.sub_zero, Nat.reduceAdd, Nat.reduceMul]
      refine r_op (o_load hS rfl rfl rfl rfl (s_no ?_))
      dsimp only [putF, rd, Frame.get]
      refine r_op (o_build rfl (s_no ?_))
      dsimp only [putF, rd, Frame.get, setCells, over]
      refine r_op (o_bsliceR rfl (s_no ?_))
      dsimp only [putF, rd, Frame.get, setCells, over]
      dsimp only [putF, rd, Frame.get, setCells, over] at hS
      refine r_op ?_
      refine o_appendX hS rfl (SrcOf.one rfl) rfl (pairsC_len hs) (by omega) fun v82 S hS => ?_
      refine s_no ?_
      dsimp only [putF, rd, Frame.get]
      refine r_op (o_mov (s_no ?_))
      dsimp only [putF, rd, Frame.get]
      refine r_nil (c_keep ?_)
      dsimp only [List.map]
      dsimp only [putF, rd, Frame.get]
      with_reducible (refine ob_n ?_; refine on_n ?_)
      have := rest (hs ++ [((i : Int) + 1 - q.s.length, q.fd)]) p2 v82 S (by
        rw [← hcat, hcb, if_pos hmem, ← hfe, List.append_assoc]
        rfl) (hS.eq (by rw [show pairsC (hs ++ [((i : Int) + 1 - q.s.length, q.fd)]) = pairsC hs ++ [.int .i64 ((i : Int) + 1 - q.s.length), .int .i64 q.fd] from by unfold pairsC; rw [List.flatMap_append]; rfl]))
      rw [List.length_append] at this
      exact this
    · have hno : q.s ∉ fs := fun hm => hfp (by
        rw [hfq]; unfold fdOf; rw [List.take_length, if_pos hm]; unfold idxI; omega)
      with_reducible (refine c_skip ?_; refine ob_n ?_; refine on_n ?_)
      exact rest hs p2 v2 S (by rw [← hcat, hcb, if_neg hno]; rfl) hS
  · have hq0 : q.s = [] := List.length_eq_zero_iff.1 (by omega)
    rw [hq0] at hcat
    have hcat : hs = manyAt text fs (i + 1) := by rw [← hcat]; exact (List.append_nil _).symm
    have hasc := (chain_asc fs ((i + 1 : Nat) : Int) (text.take (i + 1))).1
    have hsort := hsort_hc h1 (p := p2) (v := v2) (ls := hs) (by rw [hcat]; exact hasc) (by omega)
    rw [← hR] at hS
    have hpl := pairsC_len hs
    with_reducible (refine c_exit ?_; refine on_e ?_; refine on_e ?_; refine ob_e ?_; refine on_n ?_; refine c_seq ?_)
    refine c_ops ?_
    refine r_op (o_mov (s_no ?_))
    dsimp only [putF, rd, Frame.get]
    refine r_op (o_call ?_)
    dsimp only [List.map, putF, rd, Frame.get]
    refine HC.use (a := pt p2 (.row v2 2 (pairsC hs))) hsort hS ?_; rintro r m' S ⟨rfl, rfl⟩ hS
    refine s_no ?_
    refine r_nil (c_keep ?_)
    dsimp only [List.map]
    dsimp only [putF, rd, Frame.get]
    with_reducible (refine on_n ?_)
    refine c_ops ?_
    refine r_op (o_mov (s_no ?_))
    dsimp only [putF, rd, Frame.get]
    refine r_op (o_mov (s_no ?_))
    dsimp only [putF, rd, Frame.get]
    refine r_op ?_
    refine o_appendX hS rfl (SrcOf.own (p := p2) (i := inferInstance) rfl (by omega)) rfl (pairsC_len _) (by omega) fun v87 S hS => ?_
    refine s_no ?_
    dsimp only [putF, rd, Frame.get]
    refine r_op (o_mov (s_no ?_))
    dsimp only [putF, rd, Frame.get]
    refine r_nil (c_keep ?_)
    dsimp only [List.map]
    dsimp only [putF, rd, Frame.get]
    with_reducible (refine ob_n ?_; refine on_n ?_)
    refine c_ops ?_
    refine r_op (o_bin rfl (by first | trivial | (unfold inI64; omega)) (s_no ?_))
    dsimp only [putF, rd, Frame.get]
    refine r_op (o_mov (s_no ?_))
    dsimp only [putF, rd, Frame.get]
    refine r_nil (c_keep ?_)
    dsimp only [List.map]
    dsimp only [putF, rd, Frame.get]
    with_reducible (refine on_n ?_)
    have hsub : subL (pairsC hs) 0 (hs.length * 2) = pairsC hs := by unfold subL; rw [List.drop_zero, List.take_of_length_le (by omega)]
    rw [hsub] at hS
    refine ⟨text.length - (i + 1), by omega, i + 1, c2, p, v87, pt p2 (.row v2 2 (pairsC hs)) + Y, ?_, by omega, rfl, hc2, hc2s, hS.eq ?_⟩
    · rw [manyUp_succ, List.length_append, ← hcat]; rfl
    · rw [manyUp_succ, ← hcat, show pairsC (manyUp text fs i ++ hs) = pairsC (manyUp text fs i) ++ pairsC hs from by unfold pairsC; rw [List.flatMap_append]]
      ac_rfl
theorem find_Many_con' (hF : Con Try.prog f_find_fault find_fault_ct) (hC : Con Try.prog f_slices_Contains___string_string_ slices_Contains___string_string__ct) (h1 : Con Try.prog f_find_Many_1 find_Many_1_ct) : Con Try.prog f_find_Many find_Many_ct := by
  refine ⟨find_Many_ok.able rfl, fun ⟨text, fs⟩ hp => ?_⟩
  have hw := Many_walk hF hC h1 (text := text) (fs := fs) hp
  have e : AVal.ros (List.length fs) (strsF fs) = encA (.sl .str) fs := congrArg (AVal.ros (List.length fs)) (strs_e fs).symm
  refine HC.plainly (e ▸ hw) ?_
  rintro r m' S' (⟨c, rfl, hd⟩ | ⟨p, v, ls, X, rfl, hd, rfl⟩) hS
  · refine ⟨_, id, [], LeV.refl _, has_none, [.nils, .int .i64 c], ?_, rfl⟩
    show resA [.own tHit, .val tI] (findMany text fs) 0 _ _
    rw [hd]
    exact .inr ⟨rfl, [.int .i64 c], rfl, [], rfl, rfl, rfl⟩
  · rw [pairs_e] at hS
    refine ⟨.tup [.sl 0 v 0 ls.length, .int .i64 0], _, _, .tup (.cons .sl (.refl _)), has_one hS, [.sl 0 v 0 ls.length, .int .i64 0], ?_, rfl⟩
    show resA [.own tHit, .val tI] (findMany text fs) 0 _ _
    rw [hd]
    exact .inl ⟨v, [.int .i64 0], [], rfl, rfl, [], rfl, rfl, rfl⟩
end Go.Proofs.Ytfelfimcnidplaa.F
