/- The document's list of words: walked. Conditions: none. -/
import Derived.Test.YtmpmlnjiolbplaaGR
import Derived.Test.YtmpmlnjiolbplaaWS
set_option linter.unusedVariables false
set_option linter.unusedSimpArgs false
set_option maxRecDepth 100000
namespace Go.Proofs.Ytmpmlnjiolbplaa.R
open Go.Vc Go.Fu Go.Proofs.Ytmpmlnjiolbplaa.W
theorem setCells_mid : ∀ {A B : List AVal} {x z : AVal} {n : Nat}, A.length = n → setCells (A ++ x :: B) n [z] = A ++ z :: B
  | [], B, x, z, n, h => by subst h; cases B <;> rfl
  | a :: A, B, x, z, n, h => by subst h; show a :: setCells (A ++ x :: B) A.length [z] = _; rw [setCells_mid rfl]; rfl
theorem setCells_mid1 {A B : List AVal} {w x z : AVal} {n : Nat} (h : A.length = n) : setCells (A ++ w :: x :: B) (n + 1) [z] = A ++ w :: z :: B := by
  have := setCells_mid (A := A ++ [w]) (B := B) (x := x) (z := z) (n := n + 1) (by simp [h])
  simpa using this
theorem takeN_mid {A B : List AVal} {x : AVal} {n : Nat} (h : A.length = n) : takeN 1 ((A ++ x :: B).drop n) = some [x] := by
  subst h; simp [takeN]
theorem takeN_mid1 {A B : List AVal} {w x : AVal} {n : Nat} (h : A.length = n) : takeN 1 ((A ++ w :: x :: B).drop (n + 1)) = some [x] := by
  subst h
  rw [show A ++ w :: x :: B = (A ++ [w]) ++ x :: B by simp, show A.length + 1 = (A ++ [w]).length by simp]; simp [takeN]
theorem wordAt_use (hW : Con Try.prog f_ref_wordAt ref_wordAt_ct) {s : Bytes} {k : Nat} (hs : fitS s) (hk : k ≤ s.length) {S : Store} {K : AVal → Store → Prop} (h : K (.str (wordOf s k)) S) : ACalls Try.prog f_ref_wordAt [.str s, .int .i64 (k : Int)] S K :=
  hW.plain (s, (k : Int)) ⟨hs, by omega, by show (k : Int) ≤ s.length; omega⟩ rfl (by
    show K (.str (wordOf s ((k : Int)).toNat)) S
    rw [Int.toNat_natCast]; exact h)
theorem wMem_perm {D D' : List WE} (h : D.Perm D') : wMem D = wMem D' := by
  induction h with
  | nil => rfl
  | cons x _ ih => simp only [wMem, ih]
  | swap x y l => simp only [wMem]; ac_rfl
  | trans _ _ h1 h2 => rw [h1, h2]
theorem Slice_hc {x : AVal} {D : List WE} {mp : HM} {l4 v4 : Nat} (hx : SlW 2 x (wCells D) D.length mp) (hn : ((wTab D).map (·.1)).Nodup) (hl : D.length ≤ 1000000) :
    HC Try.prog f_sort_Slice [.iface 22 x, .fn (.func f_ref_WordsAll_1) [] [.ptr l4 v4 0]] (pt l4 (.row v4 0 [x]) + mp) fun r m' => r = .tup [] ∧ ∃ D' mp', D'.Perm D ∧ wTab D' = WL (wTab D) ∧ SlW 2 x (wCells D') D'.length mp' ∧ m' = pt l4 (.row v4 0 [x]) + mp' := by
  intro S mf hS
  rcases hx with ⟨rfl, h1, h2, rfl⟩ | ⟨p, v, rfl, rfl, h⟩
  · have h0 : D = [] := List.length_eq_zero_iff.1 h1
    subst h0
    refine (wsort_nil (S := S) (ps := l4) (vs := v4)).mono ?_
    rintro r S' ⟨rfl, rfl⟩
    exact ⟨_, ⟨rfl, [], HM.nil, .refl _, by simp [wTab, WL], SlW.nil, rfl⟩, hS⟩
  · refine (wsort_calls (S := S) (p := p) (ver := v) (ps := l4) (vs := v4) (ks := 0) (D := D) (hS.eq (m' := pt p (.row v 2 (wCells D)) + (pt l4 (.row v4 0 [.sl p v 0 D.length]) + mf)) (by ac_rfl)).get (hS.eq (m' := pt l4 (.row v4 0 [.sl p v 0 D.length]) + (pt p (.row v 2 (wCells D)) + mf)) (by ac_rfl)).get hn hl).mono ?_
    rintro r S' ⟨rfl, D', h1, h2, rfl⟩
    have hS2 := (hS.eq (m' := pt p (.row v 2 (wCells D)) + (pt l4 (.row v4 0 [.sl p v 0 D.length]) + mf)) (by ac_rfl)).put (.row v 2 (wCells D'))
    refine ⟨_, ⟨rfl, D', pt p (.row v 2 (wCells D')), h1, h2, .inr ⟨p, v, by rw [h1.length_eq], rfl, wCells_len D'⟩, rfl⟩, hS2.eq (by ac_rfl)⟩
noncomputable def upTo1 (s : Bytes) (k : Nat) : List (Bytes × Nat) := (List.range k).filterMap (entW s)
theorem upTo1_succ (s : Bytes) (k : Nat) : upTo1 s (k + 1) = upTo1 s k ++ (entW s k).toList := by
  unfold upTo1
  rw [List.range_succ, List.filterMap_append]
  cases h : entW s k <;> simp [List.filterMap, h]
theorem upTo1_all (s : Bytes) : upTo1 s s.length = fromW s 0 := by unfold upTo1 fromW; rw [Nat.sub_zero, List.range_eq_range']
theorem tabAdd_new {T : WTab} {e : Bytes × Nat} (h : e.1 ∉ T.map (·.1)) : tabAdd T e = T ++ [(e.1, [(e.2 : Int)])] := by
  induction T with
  | nil => rfl
  | cons y T ih =>
    obtain ⟨u, a⟩ := y
    simp only [List.map_cons, List.mem_cons, not_or] at h
    simp only [tabAdd]
    rw [if_neg (fun q => h.1 q.symm), ih h.2]; rfl
theorem tabAdd_mid {A B : List WE} {w : Bytes} {a : List Int} {q u v k : Nat} (h : w ∉ (wTab A).map (·.1)) : tabAdd (wTab (A ++ (w, a, q, u) :: B)) (w, k) = wTab (A ++ (w, a ++ [(k : Int)], q, v) :: B) := by
  induction A with
  | nil => show tabAdd ((w, a) :: wTab B) (w, k) = (w, a ++ [(k : Int)]) :: wTab B; simp only [tabAdd]; exact if_pos trivial
  | cons d A ih =>
    simp only [wTab, List.map_cons, List.mem_cons, not_or] at h
    show tabAdd ((d.1, d.2.1) :: wTab (A ++ (w, a, q, u) :: B)) (w, k) = (d.1, d.2.1) :: wTab (A ++ (w, a ++ [(k : Int)], q, v) :: B)
    simp only [tabAdd]
    rw [if_neg (fun e => h.1 e.symm), ih h.2]
theorem wCells_mid (A B : List WE) (wd : List UInt8) (a : List Int) (q u : Nat) : wCells (A ++ (wd, a, q, u) :: B) = wCells A ++ .str wd :: .sl q u 0 a.length :: wCells B := by rw [wCells_append]; rfl
theorem wMem_mid (A B : List WE) (wd : List UInt8) (a : List Int) (q u : Nat) : wMem (A ++ (wd, a, q, u) :: B) = pt q (.row u 1 (a.map (.int .i64))) + (wMem A + wMem B) := by
  rw [wMem_append]; show _ + (pt q (.row u 1 (a.map (.int .i64))) + _) = _; ac_rfl
set_option maxHeartbeats 1000000 in

theorem RAll_walk (hW : Con Try.prog f_ref_wordAt ref_wordAt_ct) (s : Bytes) (hs : fitS s) : HC Try.prog f_ref_WordsAll [.str s] HM.nil fun r m' => (600 < s.length ∧ r = .tup [.nils, .int .i64 1]) ∨ (¬ 600 < s.length ∧ ∃ x D mp X, r = .tup [x, .int .i64 0] ∧ SlW 2 x (wCells D) D.length mp ∧ wTab D = WL (tabOf s) ∧ m' = mp + (wMem D + X)) := by
  intro S mf hS
  rw [HM.nil_add] at hS
  refine ref_WordsAll_ok.out rfl ?_ (by simp [ref_WordsAll_fi])
  unfold vcFun ref_WordsAll_fi
  dsimp only
  unfold ref_WordsAll_c
  dsimp only [argF]
  with_reducible (refine c_seq ?_)
  refine c_ops ?_
  refine r_op (o_mov (s_no ?_))
  dsimp only [putF, rd, Frame.get]
  refine r_op (o_mov (s_no ?_))
  dsimp only [putF, rd, Frame.get]
  refine r_nil (c_keep ?_)
  dsimp only [List.map]
  dsimp only [putF, rd, Frame.get]
  with_reducible (refine on_n ?_; refine c_seq ?_; refine c_seq ?_)
  refine c_ops ?_
  refine r_op (o_mov (s_no ?_))
  dsimp only [putF, rd, Frame.get]
  refine r_op (o_len rfl (s_no ?_))
  dsimp only [putF, rd, Frame.get]
  refine r_op (o_bin rfl (by first | trivial | (unfold inI64; omega)) (s_no ?_))
  dsimp only [putF, rd, Frame.get]
  refine r_nil (c_keep ?_)
  dsimp only [List.map]
  dsimp only [putF, rd, Frame.get]
  with_reducible (refine on_n ?_)
  refine c_dec rfl (fun hc => ?_) (fun hc => ?_)
  · with_reducible (refine c_seq ?_)
    refine c_ops ?_
    refine r_op (o_mov (s_no ?_))
    dsimp only [putF, rd, Frame.get]
    refine r_op (o_mov (s_no ?_))
    dsimp only [putF, rd, Frame.get]
    refine r_nil (c_keep ?_)
    dsimp only [List.map]
    dsimp only [putF, rd, Frame.get]
    with_reducible (refine on_n ?_; refine c_ret ?_; refine on_r ?_)
    try dsimp only
    unfold ref_WordsAll_r
    refine w_tmp (w_tmp (w_nil ?_))
    dsimp only [retV, Frame.get]
    exact ⟨HM.nil, .inl ⟨by omega, rfl⟩, by rw [HM.nil_add]; exact hS⟩
  have h6 : ¬ 600 < s.length := by omega
  with_reducible (refine c_skip ?_; refine on_n ?_; refine c_seq ?_)
  refine c_ops ?_
  refine r_op (o_alloc hS fun v4 l4 S hS => s_no ?_)
  dsimp only [putF, rd, Frame.get]
  refine r_nil (c_keep ?_)
  dsimp only [List.map]
  dsimp only [putF, rd, Frame.get]
  with_reducible (refine on_n ?_; refine c_seq ?_; refine c_seq ?_)
  refine c_ops ?_
  refine r_op (o_mov (s_no ?_))
  dsimp only [putF, rd, Frame.get]
  refine r_op (o_len rfl (s_no ?_))
  dsimp only [putF, rd, Frame.get]
  refine r_op (o_mov (s_no ?_))
  dsimp only [putF, rd, Frame.get]
  refine r_nil (c_keep ?_)
  dsimp only [List.map]
  dsimp only [putF, rd, Frame.get]
  with_reducible (refine on_n ?_; refine c_block ?_)
  refine c_loop (fun n xs S => ∃ (k : Nat) (x : AVal) (D : List WE) (mp X : HM), xs = [.int .i64 (k : Int)] ∧ k ≤ s.length ∧ n = s.length - k ∧ SlW 2 x (wCells D) D.length mp ∧ wTab D = (upTo1 s k).foldl tabAdd [] ∧ Has S (pt l4 (.row v4 0 [x]) + (mp + (wMem D + (X + mf))))) s.length ⟨0, .nils, [], HM.nil, HM.nil, rfl, Nat.zero_le _, rfl, SlW.nil, rfl, hS.eq (by simp only [wMem, HM.nil_add])⟩ ?_
  clear hS
  rintro n xs S hl' ⟨k, x, D, mp, X, rfl, hk, rfl, hx, hT, hS⟩
  have hnd : ((wTab D).map (·.1)).Nodup := by rw [hT]; exact tabFold_nodup _ List.nodup_nil
  have hDl : D.length ≤ 600 := by
    have h1 : (wTab D).length = D.length := List.length_map ..
    have h2 := tabFold_len (upTo1 s k) []
    have h3 : (upTo1 s k).length ≤ k := by unfold upTo1; refine Nat.le_trans (List.length_filterMap_le _ _) ?_; simp
    rw [← hT, h1] at h2; simp only [List.length_nil] at h2; omega
  dsimp only [zipF, List.map, Frame.get]
  with_reducible (refine c_seq ?_)
  refine c_ops ?_
  refine r_op (o_bin rfl (by first | trivial | (unfold inI64; omega)) (s_no ?_))
  dsimp only [putF, rd, Frame.get]
  refine r_nil (c_keep ?_)
  dsimp only [List.map]
  dsimp only [putF, rd, Frame.get]
  with_reducible (refine on_n ?_; refine c_seq ?_)
  refine c_dec rfl (fun hlt => ?_) (fun hlt => ?_)
  rotate_left
  · obtain rfl : k = s.length := by omega
    rw [upTo1_all] at hT
    with_reducible (refine c_exit ?_; refine on_e ?_; refine on_e ?_; refine ob_e ?_; refine on_n ?_; refine c_seq ?_)
    refine c_ops ?_
    refine r_op (o_load hS rfl rfl rfl rfl (s_no ?_))
    dsimp only [putF, rd, Frame.get]
    refine r_op (o_mkif (s_no ?_))
    dsimp only [putF, rd, Frame.get]
    refine r_op (o_mkfunc (s_no ?_))
    dsimp only [putF, rd, Frame.get]
    refine r_op ?_
    refine (o_call ?_); dsimp only [List.map, putF, rd, Frame.get]; refine HC.use (a := pt l4 (.row v4 0 [x]) + mp) (Slice_hc hx hnd (by omega)) (hS.eq (m' := (pt l4 (.row v4 0 [x]) + mp) + (wMem D + (X + mf))) (by ac_rfl)) ?_; rintro r m' S ⟨rfl, D', mp', hp', hw', hx', rfl⟩ hS
    refine s_no ?_
    refine r_nil (c_keep ?_)
    dsimp only [List.map]
    dsimp only [putF, rd, Frame.get]
    with_reducible (refine on_n ?_; refine c_seq ?_)
    refine c_ops ?_
    refine r_op (o_load hS rfl rfl rfl rfl (s_no ?_))
    dsimp only [putF, rd, Frame.get]
    refine r_op (o_mov (s_no ?_))
    dsimp only [putF, rd, Frame.get]
    refine r_op (o_mov (s_no ?_))
    dsimp only [putF, rd, Frame.get]
    refine r_nil (c_keep ?_)
    dsimp only [List.map]
    dsimp only [putF, rd, Frame.get]
    with_reducible (refine on_n ?_; refine c_ret ?_)
    try dsimp only
    unfold ref_WordsAll_r
    refine w_tmp (w_tmp (w_nil ?_))
    dsimp only [retV, Frame.get]
    refine ⟨_, .inr ⟨h6, x, D', mp', pt l4 (.row v4 0 [x]) + X, rfl, hx', by rw [hw', hT]; rfl, rfl⟩, hS.eq ?_⟩
    rw [wMem_perm hp']; ac_rfl
  have hlt : k < s.length := by omega
  with_reducible (refine c_skip ?_; refine on_n ?_)
  refine c_join fun K1 hK1 => ?_
  have rest : ∀ (x : AVal) (D : List WE) (mp X : HM) (S : Store), SlW 2 x (wCells D) D.length mp → wTab D = (upTo1 s (k + 1)).foldl tabAdd [] → Has S (pt l4 (.row v4 0 [x]) + (mp + (wMem D + (X + mf)))) → K1 [] S := by
    intro x D mp X S hx hT hS
    refine hK1 _ _ rfl ?_
    dsimp only [zipF, List.map, Frame.get]
    refine c_ops ?_
    refine r_op (o_bin rfl (by first | trivial | (unfold inI64; omega)) (s_no ?_))
    dsimp only [putF, rd, Frame.get]
    refine r_op (o_mov (s_no ?_))
    dsimp only [putF, rd, Frame.get]
    refine r_nil (c_keep ?_)
    dsimp only [List.map]
    dsimp only [putF, rd, Frame.get]
    with_reducible (refine on_n ?_)
    exact ⟨s.length - (k + 1), by omega, k + 1, x, D, mp, X, rfl, by omega, rfl, hx, hT, hS⟩
  with_reducible (refine c_block ?_; refine c_seq ?_)
  refine c_ops ?_
  refine r_op (o_mov (s_no ?_))
  dsimp only [putF, rd, Frame.get]
  refine r_op (o_mov (s_no ?_))
  dsimp only [putF, rd, Frame.get]
  refine r_nil (c_keep ?_)
  dsimp only [List.map]
  dsimp only [putF, rd, Frame.get]
  with_reducible (refine on_n ?_; refine c_seq ?_)
  refine c_ops ?_
  refine r_op (o_mov (s_no ?_))
  dsimp only [putF, rd, Frame.get]
  refine r_op (o_mov (s_no ?_))
  dsimp only [putF, rd, Frame.get]
  refine r_op (o_call ?_)
  dsimp only [List.map, putF, rd, Frame.get]
  refine wordAt_use hW (k := k) hs (by omega) ?_
  refine s_no ?_
  refine r_op (o_mov (s_no ?_))
  dsimp only [putF, rd, Frame.get]
  refine r_nil (c_keep ?_)
  dsimp only [List.map]
  dsimp only [putF, rd, Frame.get]
  with_reducible (refine on_n ?_; refine c_seq ?_; refine c_seq ?_)
  refine c_ops ?_
  refine r_op (o_mov (s_no ?_))
  dsimp only [putF, rd, Frame.get]
  refine r_op (o_bin rfl (by first | trivial | (unfold inI64; omega)) (s_no ?_))
  dsimp only [putF, rd, Frame.get]
  refine r_nil (c_keep ?_)
  dsimp only [List.map]
  dsimp only [putF, rd, Frame.get]
  with_reducible (refine on_n ?_)
  refine c_dec rfl (fun hw => ?_) (fun hw => ?_)
  · with_reducible (refine c_exit ?_; refine on_e ?_; refine ob_e ?_; refine on_n ?_)
    refine rest x D mp X S hx ?_ hS
    rw [upTo1_succ, hT]
    unfold entW
    rw [if_pos hw]; simp
  have hstep : (upTo1 s (k + 1)).foldl tabAdd [] = tabAdd (wTab D) (wordOf s k, k) := by
    rw [upTo1_succ, List.foldl_append, ← hT]
    unfold entW
    rw [if_neg hw]; rfl
  generalize wordOf s k = w at *
  with_reducible (refine c_skip ?_; refine on_n ?_; refine c_seq ?_)
  refine c_ops ?_
  refine r_op (o_mov (s_no ?_))
  dsimp only [putF, rd, Frame.get]
  refine r_nil (c_keep ?_)
  dsimp only [List.map]
  dsimp only [putF, rd, Frame.get]
  with_reducible (refine on_n ?_; refine c_seq ?_; refine c_seq ?_)
  refine c_ops ?_
  refine r_op (o_load hS rfl rfl rfl rfl (s_no ?_))
  dsimp only [putF, rd, Frame.get]
  refine r_op ?_
  refine o_len hx.len ?_
  refine s_no ?_
  dsimp only [putF, rd, Frame.get]
  refine r_op (o_mov (s_no ?_))
  dsimp only [putF, rd, Frame.get]
  refine r_nil (c_keep ?_)
  dsimp only [List.map]
  dsimp only [putF, rd, Frame.get]
  with_reducible (refine on_n ?_; refine c_block ?_)
  refine c_loop (fun n xs S => ∃ (j : Nat) (fd : Bool) (x' : AVal) (D' : List WE) (mp' : HM), xs = [.bool fd, .int .i64 (j : Int)] ∧ j ≤ D.length ∧ n = D.length - j ∧ SlW 2 x' (wCells D') D'.length mp' ∧ D'.length = D.length ∧ (wTab D').map (·.1) = (wTab D).map (·.1) ∧ Has S (pt l4 (.row v4 0 [x']) + (mp' + (wMem D' + (X + mf)))) ∧
      ((fd = false ∧ wTab D' = wTab D ∧ ∀ i d, i < j → D'[i]? = some d → d.1 ≠ w) ∨ (fd = true ∧ wTab D' = tabAdd (wTab D) (w, k) ∧ ∃ i d, i < j ∧ D'[i]? = some d ∧ d.1 = w))) D.length ⟨0, false, x, D, mp, rfl, Nat.zero_le _, rfl, hx, rfl, rfl, hS, .inl ⟨rfl, rfl, fun i d h => absurd h (Nat.not_lt_zero _)⟩⟩ ?_
  clear hS
  rintro n xs S hl2 ⟨j, fd, x', D', mp', rfl, hj, rfl, hx', hDl', hkeys, hS, hcase⟩
  dsimp only [zipF, List.map, Frame.get]
  with_reducible (refine c_seq ?_)
  refine c_ops ?_
  refine r_op (o_bin rfl (by first | trivial | (unfold inI64; omega)) (s_no ?_))
  dsimp only [putF, rd, Frame.get]
  refine r_nil (c_keep ?_)
  dsimp only [List.map]
  dsimp only [putF, rd, Frame.get]
  with_reducible (refine on_n ?_; refine c_seq ?_)
  refine c_dec rfl (fun hjlt => ?_) (fun hjlt => ?_)
  rotate_left
  · obtain rfl : j = D.length := by omega
    with_reducible (refine c_exit ?_; refine on_e ?_; refine on_e ?_; refine ob_e ?_; refine on_n ?_; refine c_seq ?_)
    rcases hcase with ⟨rfl, hT', hno⟩ | ⟨rfl, hT', _⟩
    · have hnot : w ∉ (wTab D').map (·.1) := fun h => by
        unfold wTab at h
        rw [List.map_map] at h
        obtain ⟨d, hd, e⟩ := List.mem_map.1 h
        obtain ⟨i, hi, rfl⟩ := List.getElem_of_mem hd
        exact hno i _ (by omega) (List.getElem?_eq_getElem hi) e
      refine c_ops ?_
      refine r_op (o_mov (s_no ?_))
      dsimp only [putF, rd, Frame.get]
      refine r_op (o_not rfl (s_no ?_))
      dsimp only [putF, rd, Frame.get]
      refine r_nil (c_keep ?_)
      dsimp only [List.map]
      dsimp only [putF, rd, Frame.get]
      refine c_bool (c := !false) rfl (fun _ => ?_) (fun h => by cases h)
      refine c_ops ?_
      refine r_op (o_load hS rfl rfl rfl rfl (s_no ?_))
      dsimp only [putF, rd, Frame.get]
      refine r_op (o_mov (s_no ?_))
      dsimp only [putF, rd, Frame.get]
      refine r_op (o_mov (s_no ?_))
      dsimp only [putF, rd, Frame.get]
      refine r_op (o_bsliceW hS rfl fun v52 l52 S hS => s_no ?_)
      dsimp only [putF, rd, Frame.get, setCells, over]
      dsimp only [putF, rd, Frame.get, setCells, over] at hS
      refine r_op (o_build rfl (s_no ?_))
      dsimp only [putF, rd, Frame.get, setCells, over]
      refine r_op (o_bsliceR rfl (s_no ?_))
      dsimp only [putF, rd, Frame.get, setCells, over]
      refine r_op ?_
      refine o_appendW (n := D'.length) hS rfl hx' rfl rfl (by omega) fun x2 mp2 S hx2 hS => ?_
      refine s_no ?_
      dsimp only [putF, rd, Frame.get]
      refine r_op ?_
      refine o_store hS rfl rfl hx2.cl rfl (by simp) fun S hS => ?_; (try dsimp only [putF, rd, Frame.get, setCells, over] at hS)
      refine s_no ?_
      dsimp only [putF, rd, Frame.get]
      refine r_nil (c_keep ?_)
      dsimp only [List.map]
      dsimp only [putF, rd, Frame.get]
      with_reducible (refine ob_n ?_; refine on_n ?_)
      refine rest x2 (D' ++ [(w, [(k : Int)], l52, v52)]) mp2 X S ?_ ?_ (hS.eq ?_)
      · rw [wCells_append, List.length_append]; exact hx2
      · rw [hstep, ← hT', tabAdd_new hnot]; unfold wTab; rw [List.map_append]; rfl
      · rw [wMem_append]
        show _ = _ + (_ + ((wMem D' + (pt l52 (.row v52 1 [.int .i64 (k : Int)]) + HM.nil)) + _))
        rw [HM.add_nil]; ac_rfl
    · refine c_ops ?_
      refine r_op (o_mov (s_no ?_))
      dsimp only [putF, rd, Frame.get]
      refine r_op (o_not rfl (s_no ?_))
      dsimp only [putF, rd, Frame.get]
      refine r_nil (c_keep ?_)
      dsimp only [List.map]
      dsimp only [putF, rd, Frame.get]
      refine c_bool (c := !true) rfl (fun h => by cases h) (fun _ => ?_)
      with_reducible (refine c_skip ?_; refine ob_n ?_; refine on_n ?_)
      exact rest x' D' mp' X S hx' (by rw [hstep, hT']) hS
  have hjlt : j < D'.length := by omega
  obtain ⟨A, d, B, rfl, hA⟩ : ∃ A d B, D' = A ++ d :: B ∧ A.length = j := ⟨D'.take j, D'[j], D'.drop (j + 1), by rw [List.getElem_cons_drop, List.take_append_drop], by rw [List.length_take]; omega⟩
  have hgj : (A ++ d :: B)[j]? = some d := by rw [List.getElem?_append_right (by omega), hA, Nat.sub_self, List.getElem?_cons_zero]
  obtain ⟨wd, a, q, u⟩ := d
  rcases hx' with ⟨rfl, h0, _, _⟩ | ⟨p, v, rfl, rfl, h2⟩
  · omega
  have hcs : wCells (A ++ (wd, a, q, u) :: B) = wCells A ++ .str wd :: .sl q u 0 a.length :: wCells B := by rw [wCells_append]; rfl
  have hcA : (wCells A).length = j * 2 := by rw [wCells_len, hA]
  have hms : wMem (A ++ (wd, a, q, u) :: B) = pt q (.row u 1 (a.map (.int .i64))) + (wMem A + wMem B) := by rw [wMem_append]; show _ + (pt q (.row u 1 (a.map (.int .i64))) + _) = _; ac_rfl
  rw [hms, hcs] at hS
  have hlen' : (A ++ (wd, a, q, u) :: B).length = D.length := hDl'
  generalize hL : (A ++ (wd, a, q, u) :: B).length = L at *
  with_reducible (refine c_skip ?_; refine on_n ?_)
  refine c_join fun K2 hK2 => ?_
  have rest2 : ∀ (fd : Bool) (x' : AVal) (D' : List WE) (mp' : HM) (S : Store), SlW 2 x' (wCells D') D'.length mp' → D'.length = D.length → (wTab D').map (·.1) = (wTab D).map (·.1) → Has S (pt l4 (.row v4 0 [x']) + (mp' + (wMem D' + (X + mf)))) →
      ((fd = false ∧ wTab D' = wTab D ∧ ∀ i d, i < j + 1 → D'[i]? = some d → d.1 ≠ w) ∨ (fd = true ∧ wTab D' = tabAdd (wTab D) (w, k) ∧ ∃ i d, i < j + 1 ∧ D'[i]? = some d ∧ d.1 = w)) → K2 [.bool fd] S := by
    intro fd x' D' mp' S h1 h2 h3 hS h4
    refine hK2 _ _ rfl ?_
    dsimp only [zipF, List.map, Frame.get]
    refine c_ops ?_
    refine r_op (o_bin rfl (by first | trivial | (unfold inI64; omega)) (s_no ?_))
    dsimp only [putF, rd, Frame.get]
    refine r_op (o_mov (s_no ?_))
    dsimp only [putF, rd, Frame.get]
    refine r_nil (c_keep ?_)
    dsimp only [List.map]
    dsimp only [putF, rd, Frame.get]
    with_reducible (refine on_n ?_)
    exact ⟨D.length - (j + 1), by omega, j + 1, fd, x', D', mp', rfl, by omega, rfl, h1, h2, h3, hS, h4⟩
  with_reducible (refine c_block ?_; refine c_seq ?_)
  refine c_ops ?_
  refine r_op (o_mov (s_no ?_))
  dsimp only [putF, rd, Frame.get]
  refine r_op (o_mov (s_no ?_))
  dsimp only [putF, rd, Frame.get]
  refine r_nil (c_keep ?_)
  dsimp only [List.map]
  dsimp only [putF, rd, Frame.get]
  with_reducible (refine on_n ?_; refine c_seq ?_)
  refine c_ops ?_
  refine r_op (o_load hS rfl rfl rfl rfl (s_no ?_))
  dsimp only [putF, rd, Frame.get]
  refine r_op (o_mov (s_no ?_))
  dsimp only [putF, rd, Frame.get]
  refine r_op (o_iaddr hS rfl rfl rfl (by omega) (s_no ?_))
  dsimp only [putF, rd, Frame.get]
  simp only [Nat.zero_mul, Nat.mul_zero, Nat.mul_one, Nat.add_zero, Nat.zero_add, Nat.sub_zero, Nat.reduceAdd, Nat.reduceMul]
  refine r_op (o_faddr rfl (s_no ?_))
  dsimp only [putF, rd, Frame.get]
  simp only [Nat.zero_mul, Nat.mul_zero, Nat.mul_one, Nat.add_zero, Nat.zero_add, Nat.sub_zero, Nat.reduceAdd, Nat.reduceMul]
  refine r_op ?_
  refine o_load hS rfl rfl (takeN_mid hcA) rfl ?_
  refine s_no ?_
  dsimp only [putF, rd, Frame.get]
  refine r_op (o_mov (s_no ?_))
  dsimp only [putF, rd, Frame.get]
  refine r_op (o_bin rfl (by first | trivial | (unfold inI64; omega)) (s_no ?_))
  dsimp only [putF, rd, Frame.get]
  refine r_nil (c_keep ?_)
  dsimp only [List.map]
  dsimp only [putF, rd, Frame.get]
  with_reducible (refine on_n ?_)
  refine c_dec rfl (fun he => ?_) (fun he => ?_)
  · subst he
    have hfd : fd = false ∧ wTab (A ++ (wd, a, q, u) :: B) = wTab D := by
      rcases hcase with ⟨h, h', _⟩ | ⟨_, _, i, d2, hi, hd2, e⟩
      · exact ⟨h, h'⟩
      · exfalso
        have hn2 : ((wTab (A ++ (wd, a, q, u) :: B)).map (·.1)).Nodup := by rw [hkeys]; exact hnd
        have e1 : ((wTab (A ++ (wd, a, q, u) :: B)).map (·.1))[i]? = some wd := by unfold wTab; rw [List.map_map, List.getElem?_map, hd2]; simp [e]
        have e2 : ((wTab (A ++ (wd, a, q, u) :: B)).map (·.1))[j]? = some wd := by unfold wTab; rw [List.map_map, List.getElem?_map, hgj]; rfl
        have hil := (List.getElem?_eq_some_iff.1 e1).1
        have := (List.getElem?_inj hil hn2).1 (e1.trans e2.symm)
        omega
    obtain ⟨rfl, hT'⟩ := hfd
    have hal : a.length ≤ 1000000 := by
      have : (wd, a) ∈ (upTo1 s k).foldl tabAdd [] := by
        rw [← hT, ← hT']; unfold wTab; rw [List.map_append]; simp
      have h3 : tabGet ((upTo1 s k).foldl tabAdd []) wd = a := tab_get (tabFold_nodup (upTo1 s k) (T := []) List.nodup_nil) this
      rw [tabGet_fold] at h3
      have h4 : a.length ≤ k := by
        rw [← h3]
        simp only [tabGet, List.nil_append, List.length_map]
        refine Nat.le_trans (List.length_filter_le _ _) ?_
        unfold upTo1; refine Nat.le_trans (List.length_filterMap_le _ _) ?_; simp
      omega
    with_reducible (refine c_seq ?_)
    refine c_opsD0 hS fun S hS => ?_
    refine d_zero ?_
    refine r_op (o_load hS rfl rfl rfl rfl (s_no ?_))
    dsimp only [putF, rd, Frame.get]
    refine r_op (o_mov (s_no ?_))
    dsimp only [putF, rd, Frame.get]
    refine r_op (o_load hS rfl rfl rfl rfl (s_no ?_))
    dsimp only [putF, rd, Frame.get]
    refine r_op (o_mov (s_no ?_))
    dsimp only [putF, rd, Frame.get]
    refine r_op (o_iaddr hS rfl rfl rfl (by omega) (s_no ?_))
    dsimp only [putF, rd, Frame.get]
    simp only [Nat.zero_mul, Nat.mul_zero, Nat.mul_one, Nat.add_zero, Nat.zero_add, Nat.sub_zero, Nat.reduceAdd, Nat.reduceMul]
    refine r_op (o_faddr rfl (s_no ?_))
    dsimp only [putF, rd, Frame.get]
    refine r_op ?_
    refine o_load hS rfl rfl (takeN_mid1 hcA) rfl ?_
    refine s_no ?_
    dsimp only [putF, rd, Frame.get]
    refine r_op (o_mov (s_no ?_))
    dsimp only [putF, rd, Frame.get]
    refine r_op (o_bsliceR rfl (s_no ?_))
    dsimp only [putF, rd, Frame.get, setCells, over]
    refine r_op ?_
    refine o_appendX hS rfl (SrcOf.one rfl) rfl (by rw [List.length_map]; omega) (by omega) fun v43 S hS => ?_
    refine s_no ?_
    dsimp only [putF, rd, Frame.get]
    refine r_op ?_
    refine o_again hS rfl rfl rfl rfl rfl ?_
    refine s_no ?_
    dsimp only [putF, rd, Frame.get]
    refine r_op (o_iaddr hS rfl rfl rfl (by omega) (s_no ?_))
    dsimp only [putF, rd, Frame.get]
    simp only [Nat.zero_mul, Nat.mul_zero, Nat.mul_one, Nat.add_zero, Nat.zero_add, Nat.sub_zero, Nat.reduceAdd, Nat.reduceMul]
    refine r_op (o_faddr rfl (s_no ?_))
    dsimp only [putF, rd, Frame.get]
    refine r_op ?_
    refine o_store hS rfl rfl rfl rfl (by simp; omega) fun S hS => ?_; (try dsimp only [putF, rd, Frame.get] at hS); rw [setCells_mid1 hcA] at hS
    refine s_no ?_
    dsimp only [putF, rd, Frame.get]
    refine r_nil (c_keep ?_)
    dsimp only [List.map]
    dsimp only [putF, rd, Frame.get]
    with_reducible (refine on_n ?_)
    refine c_ops ?_
    refine r_op (o_mov (s_no ?_))
    dsimp only [putF, rd, Frame.get]
    refine r_nil (c_keep ?_)
    dsimp only [List.map]
    dsimp only [putF, rd, Frame.get]
    with_reducible (refine ob_n ?_; refine on_n ?_)
    have hAw : wd ∉ (wTab A).map (·.1) := fun h => by
      have hn2 : ((wTab (A ++ (wd, a, q, u) :: B)).map (·.1)).Nodup := by rw [hkeys]; exact hnd
      unfold wTab at hn2 h
      rw [List.map_append, List.map_append] at hn2
      exact (List.nodup_append.1 hn2).2.2 _ h wd (by simp) rfl
    refine rest2 true (.sl p v 0 L) (A ++ (wd, a ++ [(k : Int)], q, v43) :: B) (pt p (.row v 2 (wCells (A ++ (wd, a ++ [(k : Int)], q, v43) :: B)))) S (.inr ⟨p, v, by rw [← hL]; simp, rfl, wCells_len _⟩) (by rw [← hlen', ← hL]; simp) (by rw [← hkeys]; unfold wTab; simp) (hS.eq ?_) (.inr ⟨rfl, ?_, j, (wd, a ++ [(k : Int)], q, v43), by omega, by rw [List.getElem?_append_right (by omega), hA, Nat.sub_self, List.getElem?_cons_zero], rfl⟩)
    · rw [wMem_mid, wCells_mid, List.length_append, List.map_append, List.length_singleton, List.map_singleton]
    · rw [← hT', tabAdd_mid hAw]
  · with_reducible (refine c_skip ?_; refine ob_n ?_; refine on_n ?_)
    refine rest2 fd (.sl p v 0 L) (A ++ (wd, a, q, u) :: B) (pt p (.row v 2 (wCells (A ++ (wd, a, q, u) :: B)))) S (.inr ⟨p, v, by rw [hL], rfl, wCells_len _⟩) (by rw [hL, hlen']) hkeys (hS.eq (by rw [hms, hcs])) ?_
    rcases hcase with ⟨h, h', h3⟩ | ⟨h, h', i, d2, hi, hd2, e⟩
    · refine .inl ⟨h, h', fun i d2 hi hd2 => ?_⟩
      by_cases c : i = j
      · subst c; rw [hgj] at hd2; cases hd2; exact he
      · exact h3 i d2 (by omega) hd2
    · exact .inr ⟨h, h', i, d2, by omega, hd2, e⟩
theorem ref_WordsAll_con' (hW : Con Try.prog f_ref_wordAt ref_wordAt_ct) : Con Try.prog f_ref_WordsAll ref_WordsAll_ct := by
  refine ⟨ref_WordsAll_ok.able rfl, fun s hp => ?_⟩
  have hs : fitS s := hp
  have h := RC.ofT (r0 := .tup [encA (.sl tWord) (wordsAll s).1, encA tI (wordsAll s).2]) 3 (RAll_walk hW s hs) fun r m' S' h hS => by
    rcases h with ⟨h, rfl⟩ | ⟨h, x, D, mp, X, rfl, hx, hD, rfl⟩
    · unfold wordsAll; rw [if_pos h]; rfl
    · unfold wordsAll; rw [if_neg h]
      show AVal.tup [derefT S' 2 _, derefT S' 2 _] = _
      rcases hx with ⟨rfl, h1, h2, rfl⟩ | ⟨p, v, rfl, rfl, h1⟩
      · rw [← hD, List.length_eq_zero_iff.1 h1]; rfl
      · rw [wList_dT hS 0, hD]; rfl
  exact ACalls.weak h fun r S' e => ⟨_, id, [], LeV.refl _, has_none, [encA (.sl tWord) (wordsAll s).1, encA tI (wordsAll s).2], ⟨_, rfl, _, rfl, rfl, rfl⟩, e⟩
end Go.Proofs.Ytmpmlnjiolbplaa.R
