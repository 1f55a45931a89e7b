/- The rule for ropes that are played, walked. Conditions: none. -/
import Derived.Test.YtgiglabejffciaaGR
import Derived.Test.YtgiglabejffciaaR3
set_option linter.unusedVariables false
set_option linter.unusedSimpArgs false
set_option maxRecDepth 100000
set_option maxHeartbeats 2000000
namespace Go.Proofs.Ytgiglabejffciaa.R
open Go.Vc Go.Fu
open H (encO encO_at map_int flat_len)
theorem strs_at {T : List Bytes} {j : Nat} (h : j < T.length) : ((T.map AVal.str).drop (j * 1)).take 1 = [.str (gt T (j : Int))] := by
  rw [Nat.mul_one, gt_nat_in h, List.drop_eq_getElem_cons (by simpa using h)]
  simp
/-- A slice of one's own that is the whole of its row, or nil. -/
def SlW (k : Nat) (x : AVal) (cells : List AVal) (n : Nat) (m : HM) : Prop := (x = .nils ∧ n = 0 ∧ cells = [] ∧ m = HM.nil) ∨ ∃ p v, x = .sl p v 0 n ∧ m = pt p (.row v k cells) ∧ cells.length = n * k
theorem SlW.r {k : Nat} {x : AVal} {cells : List AVal} {n : Nat} {m : HM} (h : SlW k x cells n m) : SlR k x cells n m := by
  rcases h with ⟨rfl, rfl, rfl, rfl⟩ | ⟨p, v, rfl, rfl, h⟩
  · exact .nil
  · exact SlR.whole h
theorem o_appendW {P : Program} {F : Vc.Frame} {S : Store} {K : AVal → Store → Prop} {m a : HM} {g : HM → HM} {x y : Rand} {X : AVal} {cells ys : List AVal} {k n n' b : Nat} (hS : Has S m) (hx : rd F x = X) (hs : SlW k X cells n a) [i : Part m a g] (hy : rd F y = .ros n' ys) (hl : ys.length = n' * k) (hb : (n + n') * b ≤ 140737488355328)
    (h : ∀ X' a' S', SlW k X' (cells ++ ys) (n + n') a' → Has S' (g a') → K X' S') : vcOp P F S K (.append k b x y) := by
  obtain ⟨R, hR⟩ := i.split
  have hS' : Has S (a + R) := by have := i.eq ▸ hS; rwa [hR] at this
  have src : ∀ m, SrcOf m k (rd F y) n' ys := fun m => by rw [hy]; exact ⟨rfl, by omega, by rw [List.take_of_length_le (by omega)]⟩
  rcases hs with ⟨rfl, rfl, rfl, rfl⟩ | ⟨p, v, rfl, rfl, h1⟩
  · refine o_appendN hS hx (src _) (by simpa using hb) fun v l S' hS' => ?_
    have hE : m = R := by rw [i.eq, hR]; exact HM.nil_add _
    exact h (.sl l v 0 n') (pt l (.row v k ys)) S' (.inr ⟨l, v, by rw [Nat.zero_add], by rw [List.nil_append], by simpa using hl⟩) (by rw [hR, ← hE]; exact hS') |> fun q => by simpa using q
  · refine o_appendX hS' hx (src _) (i := inferInstance) rfl h1 hb fun v' S'' hS'' => ?_
    exact h (.sl p v' 0 (n + n')) (pt p (.row v' k (cells ++ ys))) S'' (.inr ⟨p, v', rfl, rfl, by rw [List.length_append, h1, hl, Nat.add_mul]⟩) (by rw [hR]; exact hS'')
abbrev BoxR (l5 v5 : Nat) (x : AVal) (ml : HM) : HM := pt l5 (.row v5 0 [x]) + ml

theorem has_walk {T : List Bytes} {l5 v5 : Nat} {x : AVal} {ml : HM} {i : Int} (hs : SlW 1 x (T.map .str) T.length ml) : HC Try.prog f_ref_RopePlayed_1 [.int .i64 i, .ptr l5 v5 0] (BoxR l5 v5 x ml) fun r m' => r = .bool (decide (opThere T.length i)) ∧ ∃ X, m' = BoxR l5 v5 x ml + X := by
  intro S mf hS
  refine ref_RopePlayed_1_ok.out rfl ?_ (by simp [ref_RopePlayed_1_fi])
  unfold vcFun ref_RopePlayed_1_fi
  dsimp only
  unfold ref_RopePlayed_1_c
  dsimp only [argF]
  with_reducible (refine c_seq ?_)
  refine c_ops ?_
  refine r_op (o_mov (s_no ?_))
  dsimp only [putF, rd, Frame.get]
  refine r_nil (c_keep ?_)
  dsimp only [List.map]
  dsimp only [putF, rd, Frame.get]
  with_reducible (refine on_n ?_; refine c_seq ?_)
  by_cases h0 : 0 ≤ i
  · refine c_ops ?_
    refine r_op (o_mov (s_no ?_))
    dsimp only [putF, rd, Frame.get]
    refine r_op (o_bin rfl (by first | trivial | (unfold inI64; omega)) (s_no ?_))
    dsimp only [putF, rd, Frame.get]
    refine r_op ?_
    refine o_mov (s_dec (fun hg => ?_) (fun hg => by exfalso; omega))
    dsimp only [putF, rd, Frame.get]
    refine r_tt rfl (o_mov (s_no ?_))
    dsimp only [putF, rd, Frame.get]
    refine r_tt rfl (o_load hS rfl rfl rfl rfl (s_no ?_))
    dsimp only [putF, rd, Frame.get]
    refine r_tt rfl ?_
    refine o_len hs.r.len ?_
    refine s_no ?_
    dsimp only [putF, rd, Frame.get]
    refine r_tt rfl (o_bin rfl (by first | trivial | (unfold inI64; omega)) (s_no ?_))
    dsimp only [putF, rd, Frame.get]
    refine r_op (o_pickT rfl (s_no ?_))
    dsimp only [putF, rd, Frame.get]
    refine r_op (o_mov (s_no ?_))
    dsimp only [putF, rd, Frame.get]
    refine r_nil (c_keep ?_)
    dsimp only [List.map]
    dsimp only [putF, rd, Frame.get]
    with_reducible (refine on_n ?_; refine c_ret ?_)
    try dsimp only
    unfold ref_RopePlayed_1_r
    refine w_tmp (w_nil ?_)
    dsimp only [retV, Frame.get]
    exact ⟨_, ⟨congrArg AVal.bool (decide_eq_decide.2 (by unfold opThere; omega)), HM.nil, (HM.add_nil _).symm⟩, hS⟩
  · refine c_ops ?_
    refine r_op (o_mov (s_no ?_))
    dsimp only [putF, rd, Frame.get]
    refine r_op (o_bin rfl (by first | trivial | (unfold inI64; omega)) (s_no ?_))
    dsimp only [putF, rd, Frame.get]
    refine r_op ?_
    refine o_mov (s_dec (fun hg => by exfalso; omega) (fun hg => ?_))
    dsimp only [putF, rd, Frame.get]
    ((with_reducible refine r_st ?_ ?_); (· rfl))
    dsimp only [putF, rd, Frame.get]
    ((with_reducible refine r_st ?_ ?_); (· rfl))
    dsimp only [putF, rd, Frame.get]
    ((with_reducible refine r_st ?_ ?_); (· rfl))
    dsimp only [putF, rd, Frame.get]
    ((with_reducible refine r_st ?_ ?_); (· rfl))
    dsimp only [putF, rd, Frame.get]
    refine r_op (o_pickF rfl (s_no ?_))
    dsimp only [putF, rd, Frame.get]
    refine r_op (o_mov (s_no ?_))
    dsimp only [putF, rd, Frame.get]
    refine r_nil (c_keep ?_)
    dsimp only [List.map]
    dsimp only [putF, rd, Frame.get]
    with_reducible (refine on_n ?_; refine c_ret ?_)
    try dsimp only
    unfold ref_RopePlayed_1_r
    refine w_tmp (w_nil ?_)
    dsimp only [retV, Frame.get]
    refine ⟨_, ⟨?_, HM.nil, (HM.add_nil _).symm⟩, hS⟩
    rw [decide_eq_false (show ¬ opThere T.length i by unfold opThere; omega)]
theorem has_use {T : List Bytes} {l5 v5 : Nat} {x : AVal} {ml m : HM} {i : Int} {g : HM → HM} [Part m (BoxR l5 v5 x ml) g] {S : Store} {K : AVal → Store → Prop} (hs : SlW 1 x (T.map .str) T.length ml) (hS : Has S m) (h : K (.bool (decide (opThere T.length i))) S) : ACalls Try.prog f_ref_RopePlayed_1 [.int .i64 i, .ptr l5 v5 0] S K :=
  (has_walk hs).quiet (fun r m' h => h) hS h
abbrev frB (a5 a6 a7 a9 a17 a18 a19 : AVal) (k : Nat) (b : Bool) : Vc.Frame := [(5, a5), (6, a6), (7, a7), (9, a9), (10, .int .i64 0), (11, .str []), (17, a17), (18, a18), (19, a19), (k, .bool b)]
theorem opsT_ok (l : List Go.Fu.Op) : (opsT l).length ≤ 60 ∧ ∀ t ∈ opsT l, t.length ≤ 600 := by
  obtain ⟨h1, h2⟩ := rope_run l
  rw [← h2]
  refine ⟨by rw [List.length_map]; exact h1.few, fun t ht => ?_⟩
  obtain ⟨r, hr, rfl⟩ := List.mem_map.1 ht
  exact h1.len r hr

theorem ref_walk (l : List Go.Fu.Op) (hp : opsFit l) :
    HC Try.prog f_ref_RopePlayed [.ros l.length (l.flatMap encO)] HM.nil fun r m' => (80 < l.length ∧ r = .tup [.nils, .nils, .int .i64 1]) ∨ (¬ 80 < l.length ∧ ∃ x ml p2 v2 X, r = .tup [x, .sl p2 v2 0 l.length, .int .i64 0] ∧ SlW 1 x ((opsT l).map .str) (opsT l).length ml ∧
      m' = ml + (pt p2 (.row v2 1 ((opsC [] l).map (.int .i64))) + X)) := by
  obtain ⟨hl, hd⟩ := hp
  have hl : l.length ≤ 140737488351232 := hl
  intro S mf hS
  refine ref_RopePlayed_ok.out rfl ?_ (by simp [ref_RopePlayed_fi])
  unfold vcFun ref_RopePlayed_fi
  dsimp only
  unfold ref_RopePlayed_c
  dsimp only [argF]
  with_reducible (refine c_seq ?_)
  refine c_ops ?_
  refine r_op (o_mov (s_no ?_))
  dsimp only [putF, rd, Frame.get]
  refine r_op (o_mov (s_no ?_))
  dsimp only [putF, rd, Frame.get]
  refine r_op (o_mov (s_no ?_))
  dsimp only [putF, rd, Frame.get]
  refine r_nil (c_keep ?_)
  dsimp only [List.map]
  dsimp only [putF, rd, Frame.get]
  with_reducible (refine on_n ?_; refine c_seq ?_; refine c_seq ?_)
  refine c_ops ?_
  refine r_op (o_mov (s_no ?_))
  dsimp only [putF, rd, Frame.get]
  refine r_op (o_len rfl (s_no ?_))
  dsimp only [putF, rd, Frame.get]
  refine r_op (o_bin rfl (by first | trivial | (unfold inI64; omega)) (s_no ?_))
  dsimp only [putF, rd, Frame.get]
  refine r_nil (c_keep ?_)
  dsimp only [List.map]
  dsimp only [putF, rd, Frame.get]
  with_reducible (refine on_n ?_)
  refine c_dec rfl (fun hc => ?_) (fun hc => ?_)
  · with_reducible (refine c_seq ?_)
    refine c_ops ?_
    refine r_op (o_mov (s_no ?_))
    dsimp only [putF, rd, Frame.get]
    refine r_op (o_mov (s_no ?_))
    dsimp only [putF, rd, Frame.get]
    refine r_op (o_mov (s_no ?_))
    dsimp only [putF, rd, Frame.get]
    refine r_nil (c_keep ?_)
    dsimp only [List.map]
    dsimp only [putF, rd, Frame.get]
    with_reducible (refine on_n ?_; refine c_ret ?_; refine on_r ?_)
    try dsimp only
    unfold ref_RopePlayed_r
    refine w_tmp (w_tmp (w_tmp (w_nil ?_)))
    dsimp only [retV, Frame.get]
    exact ⟨HM.nil, .inl ⟨by omega, rfl⟩, hS⟩
  have h80 : ¬ 80 < l.length := by omega
  with_reducible (refine c_skip ?_; refine on_n ?_; refine c_seq ?_)
  refine c_ops ?_
  refine r_op (o_alloc hS fun v5 l5 S hS => s_no ?_)
  dsimp only [putF, rd, Frame.get]
  refine r_nil (c_keep ?_)
  dsimp only [List.map]
  dsimp only [putF, rd, Frame.get]
  with_reducible (refine on_n ?_; refine c_seq ?_)
  refine c_ops ?_
  refine r_op (o_newnil hS fun v6 l6 S hS => s_no ?_)
  dsimp only [putF, rd, Frame.get]
  refine r_nil (c_keep ?_)
  dsimp only [List.map]
  dsimp only [putF, rd, Frame.get]
  with_reducible (refine on_n ?_; refine c_seq ?_)
  refine c_ops ?_
  refine r_op (o_mkfunc (s_no ?_))
  dsimp only [putF, rd, Frame.get]
  refine r_op (o_mov (s_no ?_))
  dsimp only [putF, rd, Frame.get]
  refine r_nil (c_keep ?_)
  dsimp only [List.map]
  dsimp only [putF, rd, Frame.get]
  with_reducible (refine on_n ?_; refine c_seq ?_; refine c_seq ?_)
  refine c_ops ?_
  refine r_op (o_mov (s_no ?_))
  dsimp only [putF, rd, Frame.get]
  refine r_op (o_len rfl (s_no ?_))
  dsimp only [putF, rd, Frame.get]
  refine r_op (o_mov (s_no ?_))
  dsimp only [putF, rd, Frame.get]
  refine r_nil (c_keep ?_)
  dsimp only [List.map]
  dsimp only [putF, rd, Frame.get]
  with_reducible (refine on_n ?_; refine c_block ?_)
  refine c_loop (fun n xs S => ∃ (j p2 v2 : Nat) (x : AVal) (ml X : HM), xs = [.sl p2 v2 0 j, .int .i64 (j : Int)] ∧ j ≤ l.length ∧ n = l.length - j ∧ SlW 1 x ((opsT (l.take j)).map .str) (opsT (l.take j)).length ml ∧
    Has S (BoxR l5 v5 x ml + (pt p2 (.row v2 1 ((opsC [] (l.take j)).map (.int .i64))) + (X + mf)))) l.length ⟨0, l6, v6, .nils, HM.nil, HM.nil, rfl, Nat.zero_le _, rfl, .inl ⟨rfl, rfl, rfl, rfl⟩, hS.eq (by show _ = (pt l5 (.row v5 0 [.nils]) + HM.nil) + (pt l6 (.row v6 1 []) + (HM.nil + mf)); ac_rfl)⟩ ?_
  clear hS
  rintro n xs S hl' ⟨j, p2, v2, x, ml, X, rfl, hj, rfl, hm, hS⟩
  dsimp only [zipF, List.map, Frame.get]
  with_reducible (refine c_seq ?_)
  refine c_ops ?_
  refine r_op (o_bin rfl (by first | trivial | (unfold inI64; omega)) (s_no ?_))
  dsimp only [putF, rd, Frame.get]
  refine r_nil (c_keep ?_)
  dsimp only [List.map]
  dsimp only [putF, rd, Frame.get]
  with_reducible (refine on_n ?_; refine c_seq ?_)
  have cl := opsC_len (l.take j) []
  rw [List.length_take, Nat.min_eq_left hj] at cl
  refine c_dec rfl (fun hlt => ?_) (fun hlt => ?_)
  rotate_left
  · obtain rfl : j = l.length := by omega
    rw [List.take_of_length_le (Nat.le_refl _)] at hS hm
    with_reducible (refine c_exit ?_; refine on_e ?_; refine on_e ?_; refine ob_e ?_; refine on_n ?_; refine c_seq ?_)
    refine c_ops ?_
    refine r_op (o_load hS rfl rfl rfl rfl (s_no ?_))
    dsimp only [putF, rd, Frame.get]
    refine r_op (o_mov (s_no ?_))
    dsimp only [putF, rd, Frame.get]
    refine r_op (o_mov (s_no ?_))
    dsimp only [putF, rd, Frame.get]
    refine r_op (o_mov (s_no ?_))
    dsimp only [putF, rd, Frame.get]
    refine r_op (o_mov (s_no ?_))
    dsimp only [putF, rd, Frame.get]
    refine r_nil (c_keep ?_)
    dsimp only [List.map]
    dsimp only [putF, rd, Frame.get]
    with_reducible (refine on_n ?_; refine c_ret ?_)
    try dsimp only
    unfold ref_RopePlayed_r
    refine w_tmp (w_tmp (w_tmp (w_nil ?_)))
    dsimp only [retV, Frame.get]
    exact ⟨_, .inr ⟨h80, x, ml, p2, v2, _, rfl, hm, rfl⟩, hS.eq (by show (pt l5 (.row v5 0 [x]) + ml) + (pt p2 (.row v2 1 ((opsC [] l).map (.int .i64))) + (X + mf)) = ml + (pt p2 (.row v2 1 ((opsC [] l).map (.int .i64))) + (X + pt l5 (.row v5 0 [x]))) + mf; ac_rfl)⟩
  obtain ⟨d, hdj⟩ : ∃ d, l[j]? = some d := ⟨_, List.getElem?_eq_getElem (by omega)⟩
  have ht := encO_at hdj
  have e1 : l.take (j + 1) = l.take j ++ [d] := by rw [List.take_add_one, hdj]; rfl
  obtain ⟨T60, T600⟩ := opsT_ok (l.take j)
  have hfit : opFits d := hd d (List.mem_of_getElem? hdj)
  have nT : opsT (l.take (j + 1)) = opNext (opsT (l.take j)) d := by rw [e1, opsT_snoc]
  have nC : opsC [] (l.take (j + 1)) = opsC [] (l.take j) ++ [opCode (opsT (l.take j)) d] := by rw [e1, opsC_snoc]; rfl
  generalize opsT (l.take j) = T at *
  generalize opsC [] (l.take j) = C at *
  obtain ⟨kd, tx, A, B, At, Ct⟩ := d
  with_reducible (refine c_skip ?_; refine on_n ?_)
  refine c_join fun K1 hK1 => ?_
  have rest1 : ∀ (v2 : Nat) (x : AVal) (ml X : HM) (S : Store), SlW 1 x ((opNext T (kd, tx, A, B, At, Ct)).map .str) (opNext T (kd, tx, A, B, At, Ct)).length ml → Has S (BoxR l5 v5 x ml + (pt p2 (.row v2 1 (C.map (.int .i64) ++ [.int .i64 (opCode T (kd, tx, A, B, At, Ct))])) + (X + mf))) → K1 [.sl p2 v2 0 (j + 1)] S := by
    intro v2 x ml X S hm hS
    refine hK1 _ _ rfl ?_
    dsimp only [zipF, List.map, Frame.get]
    refine c_ops ?_
    refine r_op (o_bin rfl (by first | trivial | (unfold inI64; omega)) (s_no ?_))
    dsimp only [putF, rd, Frame.get]
    refine r_op (o_mov (s_no ?_))
    dsimp only [putF, rd, Frame.get]
    refine r_nil (c_keep ?_)
    dsimp only [List.map]
    dsimp only [putF, rd, Frame.get]
    with_reducible (refine on_n ?_)
    refine ⟨l.length - (j + 1), by omega, j + 1, p2, v2, x, ml, X, rfl, by omega, rfl, ?_, ?_⟩
    · rw [nT]; exact hm
    · rw [nC, List.map_append]; exact hS
  with_reducible (refine c_block ?_; refine c_seq ?_)
  refine c_ops ?_
  refine r_op (o_iaddrR rfl rfl (by omega) (by assumption) (s_no ?_))
  dsimp only [putF, rd, Frame.get]
  refine r_op (o_loadR rfl rfl rfl (s_no ?_))
  dsimp only [putF, rd, Frame.get]
  refine r_op (o_alloc hS fun v9 l9 S hS => s_no ?_)
  dsimp only [putF, rd, Frame.get]
  refine r_op (o_store hS rfl rfl rfl rfl (by simp) fun S hS => s_no ?_)
  dsimp only [putF, rd, Frame.get]
  dsimp only [putF, rd, Frame.get, setCells, over] at hS
  refine r_nil (c_keep ?_)
  dsimp only [List.map]
  dsimp only [putF, rd, Frame.get]
  with_reducible (refine on_n ?_; refine c_seq ?_)
  refine c_ops ?_
  refine r_op (o_mov (s_no ?_))
  dsimp only [putF, rd, Frame.get]
  refine r_nil (c_keep ?_)
  dsimp only [List.map]
  dsimp only [putF, rd, Frame.get]
  with_reducible (refine on_n ?_; refine c_seq ?_)
  refine c_ops ?_
  refine r_op (o_mov (s_no ?_))
  dsimp only [putF, rd, Frame.get]
  refine r_nil (c_keep ?_)
  dsimp only [List.map]
  dsimp only [putF, rd, Frame.get]
  with_reducible (refine on_n ?_)
  have hS := hS.eq (m' := BoxR l5 v5 x ml + (pt p2 (.row v2 1 (C.map (.int .i64))) + (pt l9 (.row v9 0 [.int .i64 kd, .str tx, .int .i64 A, .int .i64 B, .int .i64 At, .int .i64 Ct]) + (X + mf)))) (by ac_rfl)
  refine c_join fun K2 hK2 => ?_
  have rest2 : ∀ (e : Int) (out : Bytes) (S : Store), e = opFault T (kd, tx, A, B, At, Ct) → (e = 0 → out = opText T (kd, tx, A, B, At, Ct)) → out.length ≤ 140737488351232 → Has S (BoxR l5 v5 x ml + (pt p2 (.row v2 1 (C.map (.int .i64))) + (pt l9 (.row v9 0 [.int .i64 kd, .str tx, .int .i64 A, .int .i64 B, .int .i64 At, .int .i64 Ct]) + (X + mf)))) → K2 [.int .i64 e, .str out] S := by
    intro e out S he ho hol hS
    refine hK2 _ _ rfl ?_
    dsimp only [zipF, List.map, Frame.get]
    refine c_join fun K3 hK3 => ?_
    have rest3 : ∀ (c : Int) (S : Store), c = opCode T (kd, tx, A, B, At, Ct) → Has S (BoxR l5 v5 x ml + (pt p2 (.row v2 1 (C.map (.int .i64))) + (pt l9 (.row v9 0 [.int .i64 kd, .str tx, .int .i64 A, .int .i64 B, .int .i64 At, .int .i64 Ct]) + (X + mf)))) → K3 [.int .i64 c] S := by
      intro c S hc hS
      refine hK3 _ _ rfl ?_
      dsimp only [zipF, List.map, Frame.get]
      with_reducible (refine c_seq ?_)
      refine c_ops ?_
      refine r_op (o_mov (s_no ?_))
      dsimp only [putF, rd, Frame.get]
      refine r_op (o_mov (s_no ?_))
      dsimp only [putF, rd, Frame.get]
      refine r_op (o_bsliceR rfl (s_no ?_))
      dsimp only [putF, rd, Frame.get, setCells, over]
      refine r_op ?_
      refine o_appendX hS rfl (SrcOf.one rfl) rfl (by simp [cl]) (by omega) fun v2' S hS => ?_
      refine s_no ?_
      dsimp only [putF, rd, Frame.get]
      refine r_op (o_mov (s_no ?_))
      dsimp only [putF, rd, Frame.get]
      refine r_nil (c_keep ?_)
      dsimp only [List.map]
      dsimp only [putF, rd, Frame.get]
      with_reducible (refine on_n ?_; refine c_seq ?_)
      refine c_ops ?_
      refine r_op (o_mov (s_no ?_))
      dsimp only [putF, rd, Frame.get]
      refine r_op (o_bin rfl (by first | trivial | (unfold inI64; omega)) (s_no ?_))
      dsimp only [putF, rd, Frame.get]
      refine r_nil (c_keep ?_)
      dsimp only [List.map]
      dsimp only [putF, rd, Frame.get]
      with_reducible (refine on_n ?_)
      refine c_dec rfl (fun h0 => ?_) (fun h0 => ?_)
      · have h0 : c = 0 := h0
        have hf : opFault T (kd, tx, A, B, At, Ct) = 0 := by
          rw [h0] at hc; unfold opCode at hc
          split at hc
          · rename_i q; exact absurd hc.symm q
          · rename_i q; exact Classical.byContradiction q
        have e2 : opNext T (kd, tx, A, B, At, Ct) = T ++ [out] := by unfold opNext; rw [← hc, if_pos h0, ho (he.trans hf)]
        refine c_ops ?_
        refine r_op (o_load hS rfl rfl rfl rfl (s_no ?_))
        dsimp only [putF, rd, Frame.get]
        refine r_op (o_mov (s_no ?_))
        dsimp only [putF, rd, Frame.get]
        refine r_op (o_bsliceR rfl (s_no ?_))
        dsimp only [putF, rd, Frame.get, setCells, over]
        refine r_op ?_
        refine o_appendW hS rfl hm rfl rfl (by omega) fun x' ml' S hm' hS => ?_
        refine s_no ?_
        dsimp only [putF, rd, Frame.get]
        refine r_op ?_
        refine o_store hS rfl rfl hm'.r.cl rfl (by simp) fun S hS => ?_; (try dsimp only [putF, rd, Frame.get, setCells, over] at hS)
        refine s_no ?_
        dsimp only [putF, rd, Frame.get]
        refine r_nil (c_keep ?_)
        dsimp only [List.map]
        dsimp only [putF, rd, Frame.get]
        with_reducible (refine ob_n ?_; refine on_n ?_)
        refine rest1 v2' x' ml' (pt l9 (.row v9 0 [.int .i64 kd, .str tx, .int .i64 A, .int .i64 B, .int .i64 At, .int .i64 Ct]) + X) S ?_ ?_
        · rw [e2, List.map_append, List.length_append]; exact hm'
        · rw [← hc]; exact hS.eq (by show (pt l5 (.row v5 0 [x']) + ml') + _ = (pt l5 (.row v5 0 [x']) + ml') + _; ac_rfl)
      · have e2 : opNext T (kd, tx, A, B, At, Ct) = T := by unfold opNext; rw [← hc, if_neg h0]
        with_reducible (refine c_skip ?_; refine ob_n ?_; refine on_n ?_)
        refine rest1 v2' x ml (pt l9 (.row v9 0 [.int .i64 kd, .str tx, .int .i64 A, .int .i64 B, .int .i64 At, .int .i64 Ct]) + X) S ?_ ?_
        · rw [e2]; exact hm
        · rw [← hc]; exact hS.eq (by ac_rfl)
    with_reducible (refine c_seq ?_)
    by_cases h0 : e = 0
    · have hf : opFault T (kd, tx, A, B, At, Ct) = 0 := he.symm.trans h0
      have ho := ho h0
      refine c_ops ?_
      refine r_op (o_mov (s_no ?_))
      dsimp only [putF, rd, Frame.get]
      refine r_op (o_bin rfl (by first | trivial | (unfold inI64; omega)) (s_no ?_))
      dsimp only [putF, rd, Frame.get]
      refine r_op ?_
      refine o_mov (s_dec (fun hg => ?_) (fun hg => absurd h0 hg))
      dsimp only [putF, rd, Frame.get]
      refine r_tt rfl (o_mov (s_no ?_))
      dsimp only [putF, rd, Frame.get]
      refine r_tt rfl (o_len rfl (s_no ?_))
      dsimp only [putF, rd, Frame.get]
      refine r_tt rfl (o_bin rfl (by first | trivial | (unfold inI64; omega)) (s_no ?_))
      dsimp only [putF, rd, Frame.get]
      refine r_op (o_pickT rfl (s_no ?_))
      dsimp only [putF, rd, Frame.get]
      refine r_nil (c_keep ?_)
      dsimp only [List.map]
      dsimp only [putF, rd, Frame.get]
      with_reducible (refine on_n ?_)
      refine c_dec rfl (fun hg => ?_) (fun hg => ?_)
      · skip
        refine c_ops ?_
        refine r_op (o_mov (s_no ?_))
        dsimp only [putF, rd, Frame.get]
        refine r_nil (c_keep ?_)
        dsimp only [List.map]
        dsimp only [putF, rd, Frame.get]
        with_reducible (refine on_n ?_)
        exact rest3 1 _ (by unfold opCode; rw [if_neg (by simpa using hf), if_pos (by rw [← ho]; omega)]) hS
      · with_reducible (refine c_skip ?_; refine on_n ?_)
        exact rest3 e _ (by unfold opCode; rw [if_neg (by simpa using hf), if_neg (by rw [← ho]; omega)]; exact h0) hS
    · have hf : opFault T (kd, tx, A, B, At, Ct) ≠ 0 := fun q => h0 (he.trans q)
      refine c_ops ?_
      refine r_op (o_mov (s_no ?_))
      dsimp only [putF, rd, Frame.get]
      refine r_op (o_bin rfl (by first | trivial | (unfold inI64; omega)) (s_no ?_))
      dsimp only [putF, rd, Frame.get]
      refine r_op ?_
      refine o_mov (s_dec (fun hg => absurd hg h0) (fun hg => ?_))
      dsimp only [putF, rd, Frame.get]
      ((with_reducible refine r_st ?_ ?_); (· rfl))
      dsimp only [putF, rd, Frame.get]
      ((with_reducible refine r_st ?_ ?_); (· rfl))
      dsimp only [putF, rd, Frame.get]
      ((with_reducible refine r_st ?_ ?_); (· rfl))
      dsimp only [putF, rd, Frame.get]
      refine r_op (o_pickF rfl (s_no ?_))
      dsimp only [putF, rd, Frame.get]
      refine r_nil (c_keep ?_)
      dsimp only [List.map]
      dsimp only [putF, rd, Frame.get]
      with_reducible (refine on_n ?_)
      refine c_bool rfl (fun hb => by cases hb) (fun _ => ?_)
      with_reducible (refine c_skip ?_; refine on_n ?_)
      exact rest3 e _ (by unfold opCode; rw [if_pos hf]; exact he) hS
  generalize hM : BoxR l5 v5 x ml + (pt p2 (.row v2 1 (C.map (.int .i64))) + (pt l9 (.row v9 0 [.int .i64 kd, .str tx, .int .i64 A, .int .i64 B, .int .i64 At, .int .i64 Ct]) + (X + mf))) = M at hS rest2
  obtain ⟨-, ftx, -, -, -, -⟩ := hfit
  have ftx : tx.length ≤ 140737488351232 := ftx
  with_reducible (refine c_block ?_; refine c_seq ?_)
  refine c_cutN (fun F S => F = frB (.ptr l5 v5 0) (.sl p2 v2 0 j) (.fn (.func f_ref_RopePlayed_1) [] [.ptr l5 v5 0]) (.ptr l9 v9 0) (.ros l.length (l.flatMap encO)) (.int .i64 (l.length : Int)) (.int .i64 (j : Int)) 36 (decide (kd < 1 ∨ 5 < kd)) ∧ Has S M) ?_ (fun N hN => ?_)
  rotate_left
  · subst hM
    by_cases k1 : kd < 1
    · refine c_ops ?_
      refine r_op (o_faddr rfl (s_no ?_))
      dsimp only [putF, rd, Frame.get]
      simp only [Nat.zero_mul, Nat.mul_zero, Nat.mul_one, Nat.add_zero, Nat.zero_add, Nat.sub_zero, Nat.reduceAdd, Nat.reduceMul]
      refine r_op (o_load hS rfl rfl rfl rfl (s_no ?_))
      dsimp only [putF, rd, Frame.get]
      refine r_op (o_bin rfl (by first | trivial | (unfold inI64; omega)) (s_no ?_))
      dsimp only [putF, rd, Frame.get]
      refine r_op ?_
      refine o_mov (s_dec (fun hg => ?_) (fun hg => by exfalso; omega))
      dsimp only [putF, rd, Frame.get]
      ((with_reducible refine r_sf ?_ ?_); (· rfl))
      dsimp only [putF, rd, Frame.get]
      ((with_reducible refine r_sf ?_ ?_); (· rfl))
      dsimp only [putF, rd, Frame.get]
      ((with_reducible refine r_sf ?_ ?_); (· rfl))
      dsimp only [putF, rd, Frame.get]
      refine r_op (o_pickT rfl (s_no ?_))
      dsimp only [putF, rd, Frame.get]
      refine r_op (o_mov (s_no ?_))
      dsimp only [putF, rd, Frame.get]
      refine r_nil (c_keep ?_)
      dsimp only [List.map]
      dsimp only [putF, rd, Frame.get]
      refine on_n (hN _ _ ⟨?_, hS⟩)
      exact congrArg (frB (.ptr l5 v5 0) (.sl p2 v2 0 j) (.fn (.func f_ref_RopePlayed_1) [] [.ptr l5 v5 0]) (.ptr l9 v9 0) (.ros l.length (l.flatMap encO)) (.int .i64 (l.length : Int)) (.int .i64 (j : Int)) 36) (decide_eq_true (show kd < 1 ∨ 5 < kd from .inl k1)).symm
    · refine c_ops ?_
      refine r_op (o_faddr rfl (s_no ?_))
      dsimp only [putF, rd, Frame.get]
      simp only [Nat.zero_mul, Nat.mul_zero, Nat.mul_one, Nat.add_zero, Nat.zero_add, Nat.sub_zero, Nat.reduceAdd, Nat.reduceMul]
      refine r_op (o_load hS rfl rfl rfl rfl (s_no ?_))
      dsimp only [putF, rd, Frame.get]
      refine r_op (o_bin rfl (by first | trivial | (unfold inI64; omega)) (s_no ?_))
      dsimp only [putF, rd, Frame.get]
      refine r_op ?_
      refine o_mov (s_dec (fun hg => by exfalso; omega) (fun hg => ?_))
      dsimp only [putF, rd, Frame.get]
      refine r_ff rfl (o_faddr rfl (s_no ?_))
      dsimp only [putF, rd, Frame.get]
      simp only [Nat.zero_mul, Nat.mul_zero, Nat.mul_one, Nat.add_zero, Nat.zero_add, Nat.sub_zero, Nat.reduceAdd, Nat.reduceMul]
      refine r_ff rfl (o_load hS rfl rfl rfl rfl (s_no ?_))
      dsimp only [putF, rd, Frame.get]
      refine r_ff rfl (o_bin rfl (by first | trivial | (unfold inI64; omega)) (s_no ?_))
      dsimp only [putF, rd, Frame.get]
      refine r_op (o_pickF rfl (s_no ?_))
      dsimp only [putF, rd, Frame.get]
      refine r_op (o_mov (s_no ?_))
      dsimp only [putF, rd, Frame.get]
      refine r_nil (c_keep ?_)
      dsimp only [List.map]
      dsimp only [putF, rd, Frame.get]
      refine on_n (hN _ _ ⟨?_, hS⟩)
      exact congrArg (frB (.ptr l5 v5 0) (.sl p2 v2 0 j) (.fn (.func f_ref_RopePlayed_1) [] [.ptr l5 v5 0]) (.ptr l9 v9 0) (.ros l.length (l.flatMap encO)) (.int .i64 (l.length : Int)) (.int .i64 (j : Int)) 36) (decide_eq_decide.2 (by omega))
  clear hS
  rintro _ S ⟨rfl, hS⟩
  refine c_dec rfl (fun h1 => ?_) (fun h1 => ?_)
  · skip
    refine c_ops ?_
    refine r_op (o_mov (s_no ?_))
    dsimp only [putF, rd, Frame.get]
    refine r_nil (c_keep ?_)
    dsimp only [List.map]
    dsimp only [putF, rd, Frame.get]
    with_reducible (refine ob_n ?_; refine on_n ?_)
    exact rest2 _ [] S (by unfold opFault; rw [if_pos h1]) (fun q => absurd q (by decide)) (by simp) hS
  with_reducible (refine c_seq ?_)
  refine c_cutN (fun F S => F = frB (.ptr l5 v5 0) (.sl p2 v2 0 j) (.fn (.func f_ref_RopePlayed_1) [] [.ptr l5 v5 0]) (.ptr l9 v9 0) (.ros l.length (l.flatMap encO)) (.int .i64 (l.length : Int)) (.int .i64 (j : Int)) 45 (decide (1 < kd ∧ ¬ opThere T.length A)) ∧ Has S M) ?_ (fun N hN => ?_)
  rotate_left
  · subst hM
    by_cases k1 : 1 < kd
    · refine c_ops ?_
      refine r_op (o_faddr rfl (s_no ?_))
      dsimp only [putF, rd, Frame.get]
      simp only [Nat.zero_mul, Nat.mul_zero, Nat.mul_one, Nat.add_zero, Nat.zero_add, Nat.sub_zero, Nat.reduceAdd, Nat.reduceMul]
      refine r_op (o_load hS rfl rfl rfl rfl (s_no ?_))
      dsimp only [putF, rd, Frame.get]
      refine r_op (o_bin rfl (by first | trivial | (unfold inI64; omega)) (s_no ?_))
      dsimp only [putF, rd, Frame.get]
      refine r_op ?_
      refine o_mov (s_dec (fun hg => ?_) (fun hg => by exfalso; omega))
      dsimp only [putF, rd, Frame.get]
      refine r_tt rfl (o_mov (s_no ?_))
      dsimp only [putF, rd, Frame.get]
      refine r_tt rfl (o_faddr rfl (s_no ?_))
      dsimp only [putF, rd, Frame.get]
      simp only [Nat.zero_mul, Nat.mul_zero, Nat.mul_one, Nat.add_zero, Nat.zero_add, Nat.sub_zero, Nat.reduceAdd, Nat.reduceMul]
      refine r_tt rfl (o_load hS rfl rfl rfl rfl (s_no ?_))
      dsimp only [putF, rd, Frame.get]
      refine r_tt rfl (o_callv rfl ?_)
      dsimp only [List.map, putF, rd, Frame.get]
      refine has_use hm hS ?_
      refine s_no ?_
      refine r_tt rfl (o_not rfl (s_no ?_))
      dsimp only [putF, rd, Frame.get]
      refine r_op (o_pickT rfl (s_no ?_))
      dsimp only [putF, rd, Frame.get]
      refine r_op (o_mov (s_no ?_))
      dsimp only [putF, rd, Frame.get]
      refine r_nil (c_keep ?_)
      dsimp only [List.map]
      dsimp only [putF, rd, Frame.get]
      refine on_n (hN _ _ ⟨?_, hS⟩)
      rw [← decide_not]
      exact congrArg (frB (.ptr l5 v5 0) (.sl p2 v2 0 j) (.fn (.func f_ref_RopePlayed_1) [] [.ptr l5 v5 0]) (.ptr l9 v9 0) (.ros l.length (l.flatMap encO)) (.int .i64 (l.length : Int)) (.int .i64 (j : Int)) 45) (decide_eq_decide.2 ⟨fun q => ⟨k1, q⟩, fun q => q.2⟩)
    · refine c_ops ?_
      refine r_op (o_faddr rfl (s_no ?_))
      dsimp only [putF, rd, Frame.get]
      simp only [Nat.zero_mul, Nat.mul_zero, Nat.mul_one, Nat.add_zero, Nat.zero_add, Nat.sub_zero, Nat.reduceAdd, Nat.reduceMul]
      refine r_op (o_load hS rfl rfl rfl rfl (s_no ?_))
      dsimp only [putF, rd, Frame.get]
      refine r_op (o_bin rfl (by first | trivial | (unfold inI64; omega)) (s_no ?_))
      dsimp only [putF, rd, Frame.get]
      refine r_op ?_
      refine o_mov (s_dec (fun hg => by exfalso; omega) (fun hg => ?_))
      dsimp only [putF, rd, Frame.get]
      ((with_reducible refine r_st ?_ ?_); (· rfl))
      dsimp only [putF, rd, Frame.get]
      ((with_reducible refine r_st ?_ ?_); (· rfl))
      dsimp only [putF, rd, Frame.get]
      ((with_reducible refine r_st ?_ ?_); (· rfl))
      dsimp only [putF, rd, Frame.get]
      ((with_reducible refine r_st ?_ ?_); (· rfl))
      dsimp only [putF, rd, Frame.get]
      ((with_reducible refine r_st ?_ ?_); (· rfl))
      dsimp only [putF, rd, Frame.get]
      refine r_op (o_pickF rfl (s_no ?_))
      dsimp only [putF, rd, Frame.get]
      refine r_op (o_mov (s_no ?_))
      dsimp only [putF, rd, Frame.get]
      refine r_nil (c_keep ?_)
      dsimp only [List.map]
      dsimp only [putF, rd, Frame.get]
      refine on_n (hN _ _ ⟨?_, hS⟩)
      exact congrArg (frB (.ptr l5 v5 0) (.sl p2 v2 0 j) (.fn (.func f_ref_RopePlayed_1) [] [.ptr l5 v5 0]) (.ptr l9 v9 0) (.ros l.length (l.flatMap encO)) (.int .i64 (l.length : Int)) (.int .i64 (j : Int)) 45) (decide_eq_false (show ¬ (1 < kd ∧ ¬ opThere T.length A) from fun q => k1 q.1)).symm
  clear hS
  rintro _ S ⟨rfl, hS⟩
  refine c_dec rfl (fun h2 => ?_) (fun h2 => ?_)
  · skip
    refine c_ops ?_
    refine r_op (o_mov (s_no ?_))
    dsimp only [putF, rd, Frame.get]
    refine r_nil (c_keep ?_)
    dsimp only [List.map]
    dsimp only [putF, rd, Frame.get]
    with_reducible (refine ob_n ?_; refine on_n ?_)
    exact rest2 _ [] S (by unfold opFault; rw [if_neg h1, if_pos (.inl ⟨by show kd ≠ 1; omega, h2.2⟩)]) (fun q => absurd q (by decide)) (by simp) hS
  with_reducible (refine c_seq ?_)
  refine c_cutN (fun F S => F = frB (.ptr l5 v5 0) (.sl p2 v2 0 j) (.fn (.func f_ref_RopePlayed_1) [] [.ptr l5 v5 0]) (.ptr l9 v9 0) (.ros l.length (l.flatMap encO)) (.int .i64 (l.length : Int)) (.int .i64 (j : Int)) 56 (decide (kd = 2 ∧ ¬ opThere T.length B)) ∧ Has S M) ?_ (fun N hN => ?_)
  rotate_left
  · subst hM
    by_cases k2 : kd = 2
    · refine c_ops ?_
      refine r_op (o_faddr rfl (s_no ?_))
      dsimp only [putF, rd, Frame.get]
      simp only [Nat.zero_mul, Nat.mul_zero, Nat.mul_one, Nat.add_zero, Nat.zero_add, Nat.sub_zero, Nat.reduceAdd, Nat.reduceMul]
      refine r_op (o_load hS rfl rfl rfl rfl (s_no ?_))
      dsimp only [putF, rd, Frame.get]
      refine r_op (o_bin rfl (by first | trivial | (unfold inI64; omega)) (s_no ?_))
      dsimp only [putF, rd, Frame.get]
      refine r_op ?_
      refine o_mov (s_dec (fun hg => ?_) (fun hg => by exfalso; omega))
      dsimp only [putF, rd, Frame.get]
      refine r_tt rfl (o_mov (s_no ?_))
      dsimp only [putF, rd, Frame.get]
      refine r_tt rfl (o_faddr rfl (s_no ?_))
      dsimp only [putF, rd, Frame.get]
      simp only [Nat.zero_mul, Nat.mul_zero, Nat.mul_one, Nat.add_zero, Nat.zero_add, Nat.sub_zero, Nat.reduceAdd, Nat.reduceMul]
      refine r_tt rfl (o_load hS rfl rfl rfl rfl (s_no ?_))
      dsimp only [putF, rd, Frame.get]
      refine r_tt rfl (o_callv rfl ?_)
      dsimp only [List.map, putF, rd, Frame.get]
      refine has_use hm hS ?_
      refine s_no ?_
      refine r_tt rfl (o_not rfl (s_no ?_))
      dsimp only [putF, rd, Frame.get]
      refine r_op (o_pickT rfl (s_no ?_))
      dsimp only [putF, rd, Frame.get]
      refine r_op (o_mov (s_no ?_))
      dsimp only [putF, rd, Frame.get]
      refine r_nil (c_keep ?_)
      dsimp only [List.map]
      dsimp only [putF, rd, Frame.get]
      refine on_n (hN _ _ ⟨?_, hS⟩)
      rw [← decide_not]
      exact congrArg (frB (.ptr l5 v5 0) (.sl p2 v2 0 j) (.fn (.func f_ref_RopePlayed_1) [] [.ptr l5 v5 0]) (.ptr l9 v9 0) (.ros l.length (l.flatMap encO)) (.int .i64 (l.length : Int)) (.int .i64 (j : Int)) 56) (decide_eq_decide.2 ⟨fun q => ⟨k2, q⟩, fun q => q.2⟩)
    · refine c_ops ?_
      refine r_op (o_faddr rfl (s_no ?_))
      dsimp only [putF, rd, Frame.get]
      simp only [Nat.zero_mul, Nat.mul_zero, Nat.mul_one, Nat.add_zero, Nat.zero_add, Nat.sub_zero, Nat.reduceAdd, Nat.reduceMul]
      refine r_op (o_load hS rfl rfl rfl rfl (s_no ?_))
      dsimp only [putF, rd, Frame.get]
      refine r_op (o_bin rfl (by first | trivial | (unfold inI64; omega)) (s_no ?_))
      dsimp only [putF, rd, Frame.get]
      refine r_op ?_
      refine o_mov (s_dec (fun hg => by exfalso; omega) (fun hg => ?_))
      dsimp only [putF, rd, Frame.get]
      ((with_reducible refine r_st ?_ ?_); (· rfl))
      dsimp only [putF, rd, Frame.get]
      ((with_reducible refine r_st ?_ ?_); (· rfl))
      dsimp only [putF, rd, Frame.get]
      ((with_reducible refine r_st ?_ ?_); (· rfl))
      dsimp only [putF, rd, Frame.get]
      ((with_reducible refine r_st ?_ ?_); (· rfl))
      dsimp only [putF, rd, Frame.get]
      ((with_reducible refine r_st ?_ ?_); (· rfl))
      dsimp only [putF, rd, Frame.get]
      refine r_op (o_pickF rfl (s_no ?_))
      dsimp only [putF, rd, Frame.get]
      refine r_op (o_mov (s_no ?_))
      dsimp only [putF, rd, Frame.get]
      refine r_nil (c_keep ?_)
      dsimp only [List.map]
      dsimp only [putF, rd, Frame.get]
      refine on_n (hN _ _ ⟨?_, hS⟩)
      exact congrArg (frB (.ptr l5 v5 0) (.sl p2 v2 0 j) (.fn (.func f_ref_RopePlayed_1) [] [.ptr l5 v5 0]) (.ptr l9 v9 0) (.ros l.length (l.flatMap encO)) (.int .i64 (l.length : Int)) (.int .i64 (j : Int)) 56) (decide_eq_false (show ¬ (kd = 2 ∧ ¬ opThere T.length B) from fun q => k2 q.1)).symm
  clear hS
  rintro _ S ⟨rfl, hS⟩
  refine c_dec rfl (fun h3 => ?_) (fun h3 => ?_)
  · skip
    refine c_ops ?_
    refine r_op (o_mov (s_no ?_))
    dsimp only [putF, rd, Frame.get]
    refine r_nil (c_keep ?_)
    dsimp only [List.map]
    dsimp only [putF, rd, Frame.get]
    with_reducible (refine ob_n ?_; refine on_n ?_)
    exact rest2 _ [] S (by unfold opFault; rw [if_neg h1, if_pos (.inr h3)]) (fun q => absurd q (by decide)) (by simp) hS
  have tA : kd ≠ 1 → opThere T.length A := fun q => Classical.byContradiction fun z => h2 ⟨by omega, z⟩
  have tB : kd = 2 → opThere T.length B := fun q => Classical.byContradiction fun z => h3 ⟨q, z⟩
  have h23 : ¬ ((kd ≠ 1 ∧ ¬ opThere T.length A) ∨ (kd = 2 ∧ ¬ opThere T.length B)) := fun q => q.elim (fun q => q.2 (tA q.1)) fun q => q.2 (tB q.1)
  with_reducible (refine c_seq ?_)
  refine c_cutN (fun F S => F = frB (.ptr l5 v5 0) (.sl p2 v2 0 j) (.fn (.func f_ref_RopePlayed_1) [] [.ptr l5 v5 0]) (.ptr l9 v9 0) (.ros l.length (l.flatMap encO)) (.int .i64 (l.length : Int)) (.int .i64 (j : Int)) 67 (decide ((kd = 3 ∨ kd = 4) ∧ (At < 0 ∨ (gt T A).length < At))) ∧ Has S M) ?_ (fun N hN => ?_)
  rotate_left
  · subst hM
    by_cases k3 : kd = 3 ∨ kd = 4
    · obtain ⟨a0, a1⟩ := tA (by omega)
      obtain ⟨i, rfl⟩ : ∃ i : Nat, A = (i : Int) := ⟨A.toNat, by omega⟩
      have hi : i < T.length := by omega
      rcases hm with ⟨-, q0, -, -⟩ | ⟨p, v, rfl, rfl, hle⟩
      · omega
      have hti : takeN 1 ((T.map AVal.str).drop (0 + i)) = some [.str (gt T (i : Int))] := by
        have := take_sub (cs := T.map AVal.str) (off := 0) (k := 1) (n := T.length) (by simp) hi
        rw [show 0 + i = 0 + i * 1 by omega, this]
        unfold subL
        rw [List.drop_zero, List.take_of_length_le (show (T.map AVal.str).length ≤ T.length * 1 by simp), strs_at hi]
      rw [Nat.zero_add] at hti
      by_cases k31 : kd = 3
      · by_cases kn : At < 0
        · refine c_opsD0 hS fun S hS => ?_
          refine d_zero ?_
          refine r_op (o_faddr rfl (s_no ?_))
          dsimp only [putF, rd, Frame.get]
          simp only [Nat.zero_mul, Nat.mul_zero, Nat.mul_one, Nat.add_zero, Nat.zero_add, Nat.sub_zero, Nat.reduceAdd, Nat.reduceMul]
          refine r_op (o_load hS rfl rfl rfl rfl (s_no ?_))
          dsimp only [putF, rd, Frame.get]
          refine r_op (o_bin rfl (by first | trivial | (unfold inI64; omega)) (s_no ?_))
          dsimp only [putF, rd, Frame.get]
          refine r_op ?_
          refine o_mov (s_dec (fun hg => ?_) (fun hg => by exfalso; omega))
          dsimp only [putF, rd, Frame.get]
          ((with_reducible refine r_sf ?_ ?_); (· rfl))
          dsimp only [putF, rd, Frame.get]
          ((with_reducible refine r_sf ?_ ?_); (· rfl))
          dsimp only [putF, rd, Frame.get]
          ((with_reducible refine r_sf ?_ ?_); (· rfl))
          dsimp only [putF, rd, Frame.get]
          refine r_op (o_pickT rfl (s_no ?_))
          dsimp only [putF, rd, Frame.get]
          refine r_op ?_
          refine o_mov (s_bool (fun _ => ?_) (fun h => by cases h))
          dsimp only [putF, rd, Frame.get]
          refine r_tt rfl (o_faddr rfl (s_no ?_))
          dsimp only [putF, rd, Frame.get]
          simp only [Nat.zero_mul, Nat.mul_zero, Nat.mul_one, Nat.add_zero, Nat.zero_add, Nat.sub_zero, Nat.reduceAdd, Nat.reduceMul]
          refine r_tt rfl (o_load hS rfl rfl rfl rfl (s_no ?_))
          dsimp only [putF, rd, Frame.get]
          refine r_tt rfl (o_bin rfl (by first | trivial | (unfold inI64; omega)) (s_no ?_))
          dsimp only [putF, rd, Frame.get]
          refine r_tt rfl ?_
          refine o_mov (s_dec (fun hg => ?_) (fun hg => by exfalso; omega))
          dsimp only [putF, rd, Frame.get]
          ((with_reducible refine r_sf ?_ ?_); (· rfl))
          dsimp only [putF, rd, Frame.get]
          ((with_reducible refine r_sf ?_ ?_); (· rfl))
          dsimp only [putF, rd, Frame.get]
          ((with_reducible refine r_sf ?_ ?_); (· rfl))
          dsimp only [putF, rd, Frame.get]
          ((with_reducible refine r_sf ?_ ?_); (· rfl))
          dsimp only [putF, rd, Frame.get]
          ((with_reducible refine r_sf ?_ ?_); (· rfl))
          dsimp only [putF, rd, Frame.get]
          ((with_reducible refine r_sf ?_ ?_); (· rfl))
          dsimp only [putF, rd, Frame.get]
          ((with_reducible refine r_sf ?_ ?_); (· rfl))
          dsimp only [putF, rd, Frame.get]
          ((with_reducible refine r_sf ?_ ?_); (· rfl))
          dsimp only [putF, rd, Frame.get]
          ((with_reducible refine r_sf ?_ ?_); (· rfl))
          dsimp only [putF, rd, Frame.get]
          refine r_tt rfl (o_pickT rfl (s_no ?_))
          dsimp only [putF, rd, Frame.get]
          refine r_op (o_pickT rfl (s_no ?_))
          dsimp only [putF, rd, Frame.get]
          refine r_op (o_mov (s_no ?_))
          dsimp only [putF, rd, Frame.get]
          refine r_nil (c_keep ?_)
          dsimp only [List.map]
          dsimp only [putF, rd, Frame.get]
          refine on_n (hN _ _ ⟨?_, hS⟩)
          exact congrArg (frB (.ptr l5 v5 0) (.sl p2 v2 0 j) (.fn (.func f_ref_RopePlayed_1) [] [.ptr l5 v5 0]) (.ptr l9 v9 0) (.ros l.length (l.flatMap encO)) (.int .i64 (l.length : Int)) (.int .i64 (j : Int)) 67) (decide_eq_true (show (kd = 3 ∨ kd = 4) ∧ (At < 0 ∨ (gt T (i : Int)).length < At) from ⟨k3, .inl kn⟩)).symm
        · refine c_opsD0 hS fun S hS => ?_
          refine d_zero ?_
          refine r_op (o_faddr rfl (s_no ?_))
          dsimp only [putF, rd, Frame.get]
          simp only [Nat.zero_mul, Nat.mul_zero, Nat.mul_one, Nat.add_zero, Nat.zero_add, Nat.sub_zero, Nat.reduceAdd, Nat.reduceMul]
          refine r_op (o_load hS rfl rfl rfl rfl (s_no ?_))
          dsimp only [putF, rd, Frame.get]
          refine r_op (o_bin rfl (by first | trivial | (unfold inI64; omega)) (s_no ?_))
          dsimp only [putF, rd, Frame.get]
          refine r_op ?_
          refine o_mov (s_dec (fun hg => ?_) (fun hg => by exfalso; omega))
          dsimp only [putF, rd, Frame.get]
          ((with_reducible refine r_sf ?_ ?_); (· rfl))
          dsimp only [putF, rd, Frame.get]
          ((with_reducible refine r_sf ?_ ?_); (· rfl))
          dsimp only [putF, rd, Frame.get]
          ((with_reducible refine r_sf ?_ ?_); (· rfl))
          dsimp only [putF, rd, Frame.get]
          refine r_op (o_pickT rfl (s_no ?_))
          dsimp only [putF, rd, Frame.get]
          refine r_op ?_
          refine o_mov (s_bool (fun _ => ?_) (fun h => by cases h))
          dsimp only [putF, rd, Frame.get]
          refine r_tt rfl (o_faddr rfl (s_no ?_))
          dsimp only [putF, rd, Frame.get]
          simp only [Nat.zero_mul, Nat.mul_zero, Nat.mul_one, Nat.add_zero, Nat.zero_add, Nat.sub_zero, Nat.reduceAdd, Nat.reduceMul]
          refine r_tt rfl (o_load hS rfl rfl rfl rfl (s_no ?_))
          dsimp only [putF, rd, Frame.get]
          refine r_tt rfl (o_bin rfl (by first | trivial | (unfold inI64; omega)) (s_no ?_))
          dsimp only [putF, rd, Frame.get]
          refine r_tt rfl ?_
          refine o_mov (s_dec (fun hg => by exfalso; omega) (fun hg => ?_))
          dsimp only [putF, rd, Frame.get]
          refine r_ff rfl (o_faddr rfl (s_no ?_))
          dsimp only [putF, rd, Frame.get]
          simp only [Nat.zero_mul, Nat.mul_zero, Nat.mul_one, Nat.add_zero, Nat.zero_add, Nat.sub_zero, Nat.reduceAdd, Nat.reduceMul]
          refine r_ff rfl (o_load hS rfl rfl rfl rfl (s_no ?_))
          dsimp only [putF, rd, Frame.get]
          refine r_ff rfl (o_load hS rfl rfl rfl rfl (s_no ?_))
          dsimp only [putF, rd, Frame.get]
          refine r_ff rfl (o_faddr rfl (s_no ?_))
          dsimp only [putF, rd, Frame.get]
          simp only [Nat.zero_mul, Nat.mul_zero, Nat.mul_one, Nat.add_zero, Nat.zero_add, Nat.sub_zero, Nat.reduceAdd, Nat.reduceMul]
          refine r_ff rfl (o_load hS rfl rfl rfl rfl (s_no ?_))
          dsimp only [putF, rd, Frame.get]
          refine r_ff rfl (o_iaddr hS rfl rfl rfl (by omega) (s_no ?_))
          dsimp only [putF, rd, Frame.get]
          simp only [Nat.zero_mul, Nat.mul_zero, Nat.mul_one, Nat.add_zero, Nat.zero_add, Nat.sub_zero, Nat.reduceAdd, Nat.reduceMul]
          refine r_ff rfl (o_load hS rfl rfl (by assumption) rfl (s_no ?_))
          dsimp only [putF, rd, Frame.get]
          refine r_ff rfl (o_len rfl (s_no ?_))
          dsimp only [putF, rd, Frame.get]
          refine r_ff rfl (o_bin rfl (by first | trivial | (unfold inI64; omega)) (s_no ?_))
          dsimp only [putF, rd, Frame.get]
          refine r_tt rfl (o_pickF rfl (s_no ?_))
          dsimp only [putF, rd, Frame.get]
          refine r_op (o_pickT rfl (s_no ?_))
          dsimp only [putF, rd, Frame.get]
          refine r_op (o_mov (s_no ?_))
          dsimp only [putF, rd, Frame.get]
          refine r_nil (c_keep ?_)
          dsimp only [List.map]
          dsimp only [putF, rd, Frame.get]
          refine on_n (hN _ _ ⟨?_, hS⟩)
          exact congrArg (frB (.ptr l5 v5 0) (.sl p2 v2 0 j) (.fn (.func f_ref_RopePlayed_1) [] [.ptr l5 v5 0]) (.ptr l9 v9 0) (.ros l.length (l.flatMap encO)) (.int .i64 (l.length : Int)) (.int .i64 (j : Int)) 67) (decide_eq_decide.2 (by omega))
      · by_cases kn : At < 0
        · refine c_opsD0 hS fun S hS => ?_
          refine d_zero ?_
          refine r_op (o_faddr rfl (s_no ?_))
          dsimp only [putF, rd, Frame.get]
          simp only [Nat.zero_mul, Nat.mul_zero, Nat.mul_one, Nat.add_zero, Nat.zero_add, Nat.sub_zero, Nat.reduceAdd, Nat.reduceMul]
          refine r_op (o_load hS rfl rfl rfl rfl (s_no ?_))
          dsimp only [putF, rd, Frame.get]
          refine r_op (o_bin rfl (by first | trivial | (unfold inI64; omega)) (s_no ?_))
          dsimp only [putF, rd, Frame.get]
          refine r_op ?_
          refine o_mov (s_dec (fun hg => by exfalso; omega) (fun hg => ?_))
          dsimp only [putF, rd, Frame.get]
          refine r_ff rfl (o_faddr rfl (s_no ?_))
          dsimp only [putF, rd, Frame.get]
          simp only [Nat.zero_mul, Nat.mul_zero, Nat.mul_one, Nat.add_zero, Nat.zero_add, Nat.sub_zero, Nat.reduceAdd, Nat.reduceMul]
          refine r_ff rfl (o_load hS rfl rfl rfl rfl (s_no ?_))
          dsimp only [putF, rd, Frame.get]
          refine r_ff rfl (o_bin rfl (by first | trivial | (unfold inI64; omega)) (s_no ?_))
          dsimp only [putF, rd, Frame.get]
          refine r_op (o_pickF rfl (s_no ?_))
          dsimp only [putF, rd, Frame.get]
          refine r_op ?_
          refine o_mov (s_dec (fun hg => ?_) (fun hg => by exfalso; omega))
          dsimp only [putF, rd, Frame.get]
          refine r_tt rfl (o_faddr rfl (s_no ?_))
          dsimp only [putF, rd, Frame.get]
          simp only [Nat.zero_mul, Nat.mul_zero, Nat.mul_one, Nat.add_zero, Nat.zero_add, Nat.sub_zero, Nat.reduceAdd, Nat.reduceMul]
          refine r_tt rfl (o_load hS rfl rfl rfl rfl (s_no ?_))
          dsimp only [putF, rd, Frame.get]
          refine r_tt rfl (o_bin rfl (by first | trivial | (unfold inI64; omega)) (s_no ?_))
          dsimp only [putF, rd, Frame.get]
          refine r_tt rfl ?_
          refine o_mov (s_dec (fun hg => ?_) (fun hg => by exfalso; omega))
          dsimp only [putF, rd, Frame.get]
          ((with_reducible refine r_sf ?_ ?_); (· rfl))
          dsimp only [putF, rd, Frame.get]
          ((with_reducible refine r_sf ?_ ?_); (· rfl))
          dsimp only [putF, rd, Frame.get]
          ((with_reducible refine r_sf ?_ ?_); (· rfl))
          dsimp only [putF, rd, Frame.get]
          ((with_reducible refine r_sf ?_ ?_); (· rfl))
          dsimp only [putF, rd, Frame.get]
          ((with_reducible refine r_sf ?_ ?_); (· rfl))
          dsimp only [putF, rd, Frame.get]
          ((with_reducible refine r_sf ?_ ?_); (· rfl))
          dsimp only [putF, rd, Frame.get]
          ((with_reducible refine r_sf ?_ ?_); (· rfl))
          dsimp only [putF, rd, Frame.get]
          ((with_reducible refine r_sf ?_ ?_); (· rfl))
          dsimp only [putF, rd, Frame.get]
          ((with_reducible refine r_sf ?_ ?_); (· rfl))
          dsimp only [putF, rd, Frame.get]
          refine r_tt rfl (o_pickT rfl (s_no ?_))
          dsimp only [putF, rd, Frame.get]
          refine r_op (o_pickT rfl (s_no ?_))
          dsimp only [putF, rd, Frame.get]
          refine r_op (o_mov (s_no ?_))
          dsimp only [putF, rd, Frame.get]
          refine r_nil (c_keep ?_)
          dsimp only [List.map]
          dsimp only [putF, rd, Frame.get]
          refine on_n (hN _ _ ⟨?_, hS⟩)
          exact congrArg (frB (.ptr l5 v5 0) (.sl p2 v2 0 j) (.fn (.func f_ref_RopePlayed_1) [] [.ptr l5 v5 0]) (.ptr l9 v9 0) (.ros l.length (l.flatMap encO)) (.int .i64 (l.length : Int)) (.int .i64 (j : Int)) 67) (decide_eq_true (show (kd = 3 ∨ kd = 4) ∧ (At < 0 ∨ (gt T (i : Int)).length < At) from ⟨k3, .inl kn⟩)).symm
        · refine c_opsD0 hS fun S hS => ?_
          refine d_zero ?_
          refine r_op (o_faddr rfl (s_no ?_))
          dsimp only [putF, rd, Frame.get]
          simp only [Nat.zero_mul, Nat.mul_zero, Nat.mul_one, Nat.add_zero, Nat.zero_add, Nat.sub_zero, Nat.reduceAdd, Nat.reduceMul]
          refine r_op (o_load hS rfl rfl rfl rfl (s_no ?_))
          dsimp only [putF, rd, Frame.get]
          refine r_op (o_bin rfl (by first | trivial | (unfold inI64; omega)) (s_no ?_))
          dsimp only [putF, rd, Frame.get]
          refine r_op ?_
          refine o_mov (s_dec (fun hg => by exfalso; omega) (fun hg => ?_))
          dsimp only [putF, rd, Frame.get]
          refine r_ff rfl (o_faddr rfl (s_no ?_))
          dsimp only [putF, rd, Frame.get]
          simp only [Nat.zero_mul, Nat.mul_zero, Nat.mul_one, Nat.add_zero, Nat.zero_add, Nat.sub_zero, Nat.reduceAdd, Nat.reduceMul]
          refine r_ff rfl (o_load hS rfl rfl rfl rfl (s_no ?_))
          dsimp only [putF, rd, Frame.get]
          refine r_ff rfl (o_bin rfl (by first | trivial | (unfold inI64; omega)) (s_no ?_))
          dsimp only [putF, rd, Frame.get]
          refine r_op (o_pickF rfl (s_no ?_))
          dsimp only [putF, rd, Frame.get]
          refine r_op ?_
          refine o_mov (s_dec (fun hg => ?_) (fun hg => by exfalso; omega))
          dsimp only [putF, rd, Frame.get]
          refine r_tt rfl (o_faddr rfl (s_no ?_))
          dsimp only [putF, rd, Frame.get]
          simp only [Nat.zero_mul, Nat.mul_zero, Nat.mul_one, Nat.add_zero, Nat.zero_add, Nat.sub_zero, Nat.reduceAdd, Nat.reduceMul]
          refine r_tt rfl (o_load hS rfl rfl rfl rfl (s_no ?_))
          dsimp only [putF, rd, Frame.get]
          refine r_tt rfl (o_bin rfl (by first | trivial | (unfold inI64; omega)) (s_no ?_))
          dsimp only [putF, rd, Frame.get]
          refine r_tt rfl ?_
          refine o_mov (s_dec (fun hg => by exfalso; omega) (fun hg => ?_))
          dsimp only [putF, rd, Frame.get]
          refine r_ff rfl (o_faddr rfl (s_no ?_))
          dsimp only [putF, rd, Frame.get]
          simp only [Nat.zero_mul, Nat.mul_zero, Nat.mul_one, Nat.add_zero, Nat.zero_add, Nat.sub_zero, Nat.reduceAdd, Nat.reduceMul]
          refine r_ff rfl (o_load hS rfl rfl rfl rfl (s_no ?_))
          dsimp only [putF, rd, Frame.get]
          refine r_ff rfl (o_load hS rfl rfl rfl rfl (s_no ?_))
          dsimp only [putF, rd, Frame.get]
          refine r_ff rfl (o_faddr rfl (s_no ?_))
          dsimp only [putF, rd, Frame.get]
          simp only [Nat.zero_mul, Nat.mul_zero, Nat.mul_one, Nat.add_zero, Nat.zero_add, Nat.sub_zero, Nat.reduceAdd, Nat.reduceMul]
          refine r_ff rfl (o_load hS rfl rfl rfl rfl (s_no ?_))
          dsimp only [putF, rd, Frame.get]
          refine r_ff rfl (o_iaddr hS rfl rfl rfl (by omega) (s_no ?_))
          dsimp only [putF, rd, Frame.get]
          simp only [Nat.zero_mul, Nat.mul_zero, Nat.mul_one, Nat.add_zero, Nat.zero_add, Nat.sub_zero, Nat.reduceAdd, Nat.reduceMul]
          refine r_ff rfl (o_load hS rfl rfl (by assumption) rfl (s_no ?_))
          dsimp only [putF, rd, Frame.get]
          refine r_ff rfl (o_len rfl (s_no ?_))
          dsimp only [putF, rd, Frame.get]
          refine r_ff rfl (o_bin rfl (by first | trivial | (unfold inI64; omega)) (s_no ?_))
          dsimp only [putF, rd, Frame.get]
          refine r_tt rfl (o_pickF rfl (s_no ?_))
          dsimp only [putF, rd, Frame.get]
          refine r_op (o_pickT rfl (s_no ?_))
          dsimp only [putF, rd, Frame.get]
          refine r_op (o_mov (s_no ?_))
          dsimp only [putF, rd, Frame.get]
          refine r_nil (c_keep ?_)
          dsimp only [List.map]
          dsimp only [putF, rd, Frame.get]
          refine on_n (hN _ _ ⟨?_, hS⟩)
          exact congrArg (frB (.ptr l5 v5 0) (.sl p2 v2 0 j) (.fn (.func f_ref_RopePlayed_1) [] [.ptr l5 v5 0]) (.ptr l9 v9 0) (.ros l.length (l.flatMap encO)) (.int .i64 (l.length : Int)) (.int .i64 (j : Int)) 67) (decide_eq_decide.2 (by omega))
    · refine c_opsD0 hS fun S hS => ?_
      refine d_zero ?_
      refine r_op (o_faddr rfl (s_no ?_))
      dsimp only [putF, rd, Frame.get]
      simp only [Nat.zero_mul, Nat.mul_zero, Nat.mul_one, Nat.add_zero, Nat.zero_add, Nat.sub_zero, Nat.reduceAdd, Nat.reduceMul]
      refine r_op (o_load hS rfl rfl rfl rfl (s_no ?_))
      dsimp only [putF, rd, Frame.get]
      refine r_op (o_bin rfl (by first | trivial | (unfold inI64; omega)) (s_no ?_))
      dsimp only [putF, rd, Frame.get]
      refine r_op ?_
      refine o_mov (s_dec (fun hg => by exfalso; omega) (fun hg => ?_))
      dsimp only [putF, rd, Frame.get]
      refine r_ff rfl (o_faddr rfl (s_no ?_))
      dsimp only [putF, rd, Frame.get]
      simp only [Nat.zero_mul, Nat.mul_zero, Nat.mul_one, Nat.add_zero, Nat.zero_add, Nat.sub_zero, Nat.reduceAdd, Nat.reduceMul]
      refine r_ff rfl (o_load hS rfl rfl rfl rfl (s_no ?_))
      dsimp only [putF, rd, Frame.get]
      refine r_ff rfl (o_bin rfl (by first | trivial | (unfold inI64; omega)) (s_no ?_))
      dsimp only [putF, rd, Frame.get]
      refine r_op (o_pickF rfl (s_no ?_))
      dsimp only [putF, rd, Frame.get]
      refine r_op ?_
      refine o_mov (s_dec (fun hg => by exfalso; omega) (fun hg => ?_))
      dsimp only [putF, rd, Frame.get]
      ((with_reducible refine r_st ?_ ?_); (· rfl))
      dsimp only [putF, rd, Frame.get]
      ((with_reducible refine r_st ?_ ?_); (· rfl))
      dsimp only [putF, rd, Frame.get]
      ((with_reducible refine r_st ?_ ?_); (· rfl))
      dsimp only [putF, rd, Frame.get]
      ((with_reducible refine r_st ?_ ?_); (· rfl))
      all_goals try dsimp only [putF, rd, Frame.get]
      all_goals (((with_reducible refine r_su (xs := []) ?_ ?_); (· rfl)))
      all_goals (try dsimp only [putF, rd, Frame.get])
      all_goals (((with_reducible refine r_su (xs := []) ?_ ?_); (· rfl)))
      all_goals (try dsimp only [putF, rd, Frame.get])
      all_goals (((with_reducible refine r_su (xs := []) ?_ ?_); (· rfl)))
      all_goals (try dsimp only [putF, rd, Frame.get])
      all_goals (((with_reducible refine r_su (xs := []) ?_ ?_); (· rfl)))
      all_goals (try dsimp only [putF, rd, Frame.get])
      all_goals (((with_reducible refine r_su (xs := []) ?_ ?_); (· rfl)))
      all_goals (try dsimp only [putF, rd, Frame.get])
      all_goals (((with_reducible refine r_su (xs := []) ?_ ?_); (· rfl)))
      all_goals (try dsimp only [putF, rd, Frame.get])
      all_goals (((with_reducible refine r_su (xs := []) ?_ ?_); (· rfl)))
      all_goals (try dsimp only [putF, rd, Frame.get])
      all_goals (((with_reducible refine r_su (xs := []) ?_ ?_); (· rfl)))
      all_goals (try dsimp only [putF, rd, Frame.get])
      all_goals (((with_reducible refine r_su (xs := []) ?_ ?_); (· rfl)))
      all_goals (try dsimp only [putF, rd, Frame.get])
      all_goals (((with_reducible refine r_st ?_ ?_); (· rfl)))
      all_goals (try dsimp only [putF, rd, Frame.get])
      all_goals (refine r_op (o_pickF rfl (s_no ?_)))
      all_goals (try dsimp only [putF, rd, Frame.get])
      all_goals (refine r_op (o_mov (s_no ?_)))
      all_goals (try dsimp only [putF, rd, Frame.get])
      all_goals refine r_nil (c_keep ?_)
      all_goals try dsimp only [List.map]
      all_goals try dsimp only [putF, rd, Frame.get]
      refine on_n (hN _ _ ⟨?_, hS⟩)
      exact congrArg (frB (.ptr l5 v5 0) (.sl p2 v2 0 j) (.fn (.func f_ref_RopePlayed_1) [] [.ptr l5 v5 0]) (.ptr l9 v9 0) (.ros l.length (l.flatMap encO)) (.int .i64 (l.length : Int)) (.int .i64 (j : Int)) 67) (decide_eq_false (show ¬ ((kd = 3 ∨ kd = 4) ∧ (At < 0 ∨ (gt T A).length < At)) from fun q => k3 q.1)).symm
  clear hS
  rintro _ S ⟨rfl, hS⟩
  refine c_dec rfl (fun h4 => ?_) (fun h4 => ?_)
  · skip
    refine c_ops ?_
    refine r_op (o_mov (s_no ?_))
    dsimp only [putF, rd, Frame.get]
    refine r_nil (c_keep ?_)
    dsimp only [List.map]
    dsimp only [putF, rd, Frame.get]
    with_reducible (refine ob_n ?_; refine on_n ?_)
    exact rest2 _ [] S (by unfold opFault; rw [if_neg h1, if_neg h23, if_pos (.inl h4)]) (fun q => absurd q (by decide)) (by simp) hS
  with_reducible (refine c_seq ?_)
  refine c_cutN (fun F S => F = frB (.ptr l5 v5 0) (.sl p2 v2 0 j) (.fn (.func f_ref_RopePlayed_1) [] [.ptr l5 v5 0]) (.ptr l9 v9 0) (.ros l.length (l.flatMap encO)) (.int .i64 (l.length : Int)) (.int .i64 (j : Int)) 92 (decide (kd = 5 ∧ (Ct < 0 ∨ 4 < Ct))) ∧ Has S M) ?_ (fun N hN => ?_)
  rotate_left
  · subst hM
    by_cases k5 : kd = 5
    · by_cases kn : Ct < 0
      · refine c_ops ?_
        refine r_op (o_faddr rfl (s_no ?_))
        dsimp only [putF, rd, Frame.get]
        simp only [Nat.zero_mul, Nat.mul_zero, Nat.mul_one, Nat.add_zero, Nat.zero_add, Nat.sub_zero, Nat.reduceAdd, Nat.reduceMul]
        refine r_op (o_load hS rfl rfl rfl rfl (s_no ?_))
        dsimp only [putF, rd, Frame.get]
        refine r_op (o_bin rfl (by first | trivial | (unfold inI64; omega)) (s_no ?_))
        dsimp only [putF, rd, Frame.get]
        refine r_op ?_
        refine o_mov (s_dec (fun hg => ?_) (fun hg => by exfalso; omega))
        dsimp only [putF, rd, Frame.get]
        refine r_tt rfl (o_faddr rfl (s_no ?_))
        dsimp only [putF, rd, Frame.get]
        simp only [Nat.zero_mul, Nat.mul_zero, Nat.mul_one, Nat.add_zero, Nat.zero_add, Nat.sub_zero, Nat.reduceAdd, Nat.reduceMul]
        refine r_tt rfl (o_load hS rfl rfl rfl rfl (s_no ?_))
        dsimp only [putF, rd, Frame.get]
        refine r_tt rfl (o_bin rfl (by first | trivial | (unfold inI64; omega)) (s_no ?_))
        dsimp only [putF, rd, Frame.get]
        refine r_tt rfl ?_
        refine o_mov (s_dec (fun hg => ?_) (fun hg => by exfalso; omega))
        dsimp only [putF, rd, Frame.get]
        ((with_reducible refine r_sf ?_ ?_); (· rfl))
        dsimp only [putF, rd, Frame.get]
        ((with_reducible refine r_sf ?_ ?_); (· rfl))
        dsimp only [putF, rd, Frame.get]
        ((with_reducible refine r_sf ?_ ?_); (· rfl))
        dsimp only [putF, rd, Frame.get]
        refine r_tt rfl (o_pickT rfl (s_no ?_))
        dsimp only [putF, rd, Frame.get]
        refine r_op (o_pickT rfl (s_no ?_))
        dsimp only [putF, rd, Frame.get]
        refine r_op (o_mov (s_no ?_))
        dsimp only [putF, rd, Frame.get]
        refine r_nil (c_keep ?_)
        dsimp only [List.map]
        dsimp only [putF, rd, Frame.get]
        refine on_n (hN _ _ ⟨?_, hS⟩)
        exact congrArg (frB (.ptr l5 v5 0) (.sl p2 v2 0 j) (.fn (.func f_ref_RopePlayed_1) [] [.ptr l5 v5 0]) (.ptr l9 v9 0) (.ros l.length (l.flatMap encO)) (.int .i64 (l.length : Int)) (.int .i64 (j : Int)) 92) (decide_eq_true (show kd = 5 ∧ (Ct < 0 ∨ 4 < Ct) from ⟨k5, .inl kn⟩)).symm
      · refine c_ops ?_
        refine r_op (o_faddr rfl (s_no ?_))
        dsimp only [putF, rd, Frame.get]
        simp only [Nat.zero_mul, Nat.mul_zero, Nat.mul_one, Nat.add_zero, Nat.zero_add, Nat.sub_zero, Nat.reduceAdd, Nat.reduceMul]
        refine r_op (o_load hS rfl rfl rfl rfl (s_no ?_))
        dsimp only [putF, rd, Frame.get]
        refine r_op (o_bin rfl (by first | trivial | (unfold inI64; omega)) (s_no ?_))
        dsimp only [putF, rd, Frame.get]
        refine r_op ?_
        refine o_mov (s_dec (fun hg => ?_) (fun hg => by exfalso; omega))
        dsimp only [putF, rd, Frame.get]
        refine r_tt rfl (o_faddr rfl (s_no ?_))
        dsimp only [putF, rd, Frame.get]
        simp only [Nat.zero_mul, Nat.mul_zero, Nat.mul_one, Nat.add_zero, Nat.zero_add, Nat.sub_zero, Nat.reduceAdd, Nat.reduceMul]
        refine r_tt rfl (o_load hS rfl rfl rfl rfl (s_no ?_))
        dsimp only [putF, rd, Frame.get]
        refine r_tt rfl (o_bin rfl (by first | trivial | (unfold inI64; omega)) (s_no ?_))
        dsimp only [putF, rd, Frame.get]
        refine r_tt rfl ?_
        refine o_mov (s_dec (fun hg => by exfalso; omega) (fun hg => ?_))
        dsimp only [putF, rd, Frame.get]
        refine r_ff rfl (o_faddr rfl (s_no ?_))
        dsimp only [putF, rd, Frame.get]
        simp only [Nat.zero_mul, Nat.mul_zero, Nat.mul_one, Nat.add_zero, Nat.zero_add, Nat.sub_zero, Nat.reduceAdd, Nat.reduceMul]
        refine r_ff rfl (o_load hS rfl rfl rfl rfl (s_no ?_))
        dsimp only [putF, rd, Frame.get]
        refine r_ff rfl (o_bin rfl (by first | trivial | (unfold inI64; omega)) (s_no ?_))
        dsimp only [putF, rd, Frame.get]
        refine r_tt rfl (o_pickF rfl (s_no ?_))
        dsimp only [putF, rd, Frame.get]
        refine r_op (o_pickT rfl (s_no ?_))
        dsimp only [putF, rd, Frame.get]
        refine r_op (o_mov (s_no ?_))
        dsimp only [putF, rd, Frame.get]
        refine r_nil (c_keep ?_)
        dsimp only [List.map]
        dsimp only [putF, rd, Frame.get]
        refine on_n (hN _ _ ⟨?_, hS⟩)
        exact congrArg (frB (.ptr l5 v5 0) (.sl p2 v2 0 j) (.fn (.func f_ref_RopePlayed_1) [] [.ptr l5 v5 0]) (.ptr l9 v9 0) (.ros l.length (l.flatMap encO)) (.int .i64 (l.length : Int)) (.int .i64 (j : Int)) 92) (decide_eq_decide.2 (by omega))
    · refine c_ops ?_
      refine r_op (o_faddr rfl (s_no ?_))
      dsimp only [putF, rd, Frame.get]
      simp only [Nat.zero_mul, Nat.mul_zero, Nat.mul_one, Nat.add_zero, Nat.zero_add, Nat.sub_zero, Nat.reduceAdd, Nat.reduceMul]
      refine r_op (o_load hS rfl rfl rfl rfl (s_no ?_))
      dsimp only [putF, rd, Frame.get]
      refine r_op (o_bin rfl (by first | trivial | (unfold inI64; omega)) (s_no ?_))
      dsimp only [putF, rd, Frame.get]
      refine r_op ?_
      refine o_mov (s_dec (fun hg => by exfalso; omega) (fun hg => ?_))
      dsimp only [putF, rd, Frame.get]
      ((with_reducible refine r_st ?_ ?_); (· rfl))
      dsimp only [putF, rd, Frame.get]
      ((with_reducible refine r_st ?_ ?_); (· rfl))
      dsimp only [putF, rd, Frame.get]
      ((with_reducible refine r_st ?_ ?_); (· rfl))
      dsimp only [putF, rd, Frame.get]
      ((with_reducible refine r_st ?_ ?_); (· rfl))
      all_goals try dsimp only [putF, rd, Frame.get]
      all_goals (((with_reducible refine r_su (xs := []) ?_ ?_); (· rfl)))
      all_goals (try dsimp only [putF, rd, Frame.get])
      all_goals (((with_reducible refine r_su (xs := []) ?_ ?_); (· rfl)))
      all_goals (try dsimp only [putF, rd, Frame.get])
      all_goals (((with_reducible refine r_su (xs := []) ?_ ?_); (· rfl)))
      all_goals (try dsimp only [putF, rd, Frame.get])
      all_goals (((with_reducible refine r_st ?_ ?_); (· rfl)))
      all_goals (try dsimp only [putF, rd, Frame.get])
      all_goals (refine r_op (o_pickF rfl (s_no ?_)))
      all_goals (try dsimp only [putF, rd, Frame.get])
      all_goals (refine r_op (o_mov (s_no ?_)))
      all_goals (try dsimp only [putF, rd, Frame.get])
      all_goals refine r_nil (c_keep ?_)
      all_goals try dsimp only [List.map]
      all_goals try dsimp only [putF, rd, Frame.get]
      refine on_n (hN _ _ ⟨?_, hS⟩)
      exact congrArg (frB (.ptr l5 v5 0) (.sl p2 v2 0 j) (.fn (.func f_ref_RopePlayed_1) [] [.ptr l5 v5 0]) (.ptr l9 v9 0) (.ros l.length (l.flatMap encO)) (.int .i64 (l.length : Int)) (.int .i64 (j : Int)) 92) (decide_eq_false (show ¬ (kd = 5 ∧ (Ct < 0 ∨ 4 < Ct)) from fun q => k5 q.1)).symm
  clear hS
  rintro _ S ⟨rfl, hS⟩
  refine c_dec rfl (fun h5 => ?_) (fun h5 => ?_)
  · skip
    refine c_ops ?_
    refine r_op (o_mov (s_no ?_))
    dsimp only [putF, rd, Frame.get]
    refine r_nil (c_keep ?_)
    dsimp only [List.map]
    dsimp only [putF, rd, Frame.get]
    with_reducible (refine ob_n ?_; refine on_n ?_)
    exact rest2 _ [] S (by unfold opFault; rw [if_neg h1, if_neg h23, if_pos (.inr h5)]) (fun q => absurd q (by decide)) (by simp) hS
  have h45 : ¬ (((kd = 3 ∨ kd = 4) ∧ (At < 0 ∨ (gt T A).length < At)) ∨ (kd = 5 ∧ (Ct < 0 ∨ 4 < Ct))) := fun q => q.elim h4 h5
  subst hM
  with_reducible (refine c_seq ?_)
  refine c_ops ?_
  refine r_op (o_load hS rfl rfl rfl rfl (s_no ?_))
  dsimp only [putF, rd, Frame.get]
  refine r_op ?_
  refine o_len hm.r.len ?_
  refine s_no ?_
  dsimp only [putF, rd, Frame.get]
  refine r_op (o_bin rfl (by first | trivial | (unfold inI64; omega)) (s_no ?_))
  dsimp only [putF, rd, Frame.get]
  refine r_op (o_mov (s_no ?_))
  dsimp only [putF, rd, Frame.get]
  refine r_nil (c_keep ?_)
  dsimp only [List.map]
  dsimp only [putF, rd, Frame.get]
  with_reducible (refine on_n ?_)
  refine c_dec rfl (fun h6 => ?_) (fun h6 => ?_)
  · skip
    refine c_ops ?_
    refine r_op (o_mov (s_no ?_))
    dsimp only [putF, rd, Frame.get]
    refine r_nil (c_keep ?_)
    dsimp only [List.map]
    dsimp only [putF, rd, Frame.get]
    with_reducible (refine ob_n ?_; refine on_n ?_)
    exact rest2 _ [] S (by unfold opFault; rw [if_neg h1, if_neg h23, if_neg h45, if_pos (by omega)]) (fun q => absurd q (by decide)) (by simp) hS
  have hf : 0 = opFault T (kd, tx, A, B, At, Ct) := by unfold opFault; rw [if_neg h1, if_neg h23, if_neg h45, if_neg (by omega)]
  with_reducible (refine c_seq ?_)
  refine c_ops ?_
  refine r_op (o_faddr rfl (s_no ?_))
  dsimp only [putF, rd, Frame.get]
  simp only [Nat.zero_mul, Nat.mul_zero, Nat.mul_one, Nat.add_zero, Nat.zero_add, Nat.sub_zero, Nat.reduceAdd, Nat.reduceMul]
  refine r_op (o_load hS rfl rfl rfl rfl (s_no ?_))
  dsimp only [putF, rd, Frame.get]
  refine r_op (o_bin rfl (by first | trivial | (unfold inI64; omega)) (s_no ?_))
  dsimp only [putF, rd, Frame.get]
  refine r_op (o_mov (s_no ?_))
  dsimp only [putF, rd, Frame.get]
  refine r_nil (c_keep ?_)
  dsimp only [List.map]
  dsimp only [putF, rd, Frame.get]
  with_reducible (refine on_n ?_)
  refine c_dec rfl (fun k1 => ?_) (fun k1 => ?_)
  · skip
    refine c_ops ?_
    refine r_op (o_faddr rfl (s_no ?_))
    dsimp only [putF, rd, Frame.get]
    simp only [Nat.zero_mul, Nat.mul_zero, Nat.mul_one, Nat.add_zero, Nat.zero_add, Nat.sub_zero, Nat.reduceAdd, Nat.reduceMul]
    refine r_op (o_load hS rfl rfl rfl rfl (s_no ?_))
    dsimp only [putF, rd, Frame.get]
    refine r_op (o_mov (s_no ?_))
    dsimp only [putF, rd, Frame.get]
    refine r_nil (c_keep ?_)
    dsimp only [List.map]
    dsimp only [putF, rd, Frame.get]
    with_reducible (refine ob_n ?_; refine on_n ?_)
    exact rest2 0 tx S hf (fun _ => by unfold opText; rw [if_pos k1]) ftx hS
  obtain ⟨a0, a1⟩ := tA k1
  obtain ⟨i, rfl⟩ : ∃ i : Nat, A = (i : Int) := ⟨A.toNat, by omega⟩
  have hi : i < T.length := by omega
  rcases hm with ⟨-, q0, -, -⟩ | ⟨p, v, rfl, rfl, hle⟩
  · omega
  have at_ : ∀ {i : Nat}, i < T.length → takeN 1 ((T.map AVal.str).drop i) = some [.str (gt T (i : Int))] := fun {i} hi => by
    have := take_sub (cs := T.map AVal.str) (off := 0) (k := 1) (n := T.length) (by simp) hi
    rw [show 0 + i * 1 = i by omega] at this
    rw [this]
    unfold subL
    rw [List.drop_zero, List.take_of_length_le (show (T.map AVal.str).length ≤ T.length * 1 by simp), strs_at hi]
  have hti := at_ hi
  have l6 : (gt T (i : Int)).length ≤ 600 := T600 _ (gt_mem a0 a1)
  with_reducible (refine c_seq ?_)
  refine c_ops ?_
  refine r_op (o_faddr rfl (s_no ?_))
  dsimp only [putF, rd, Frame.get]
  simp only [Nat.zero_mul, Nat.mul_zero, Nat.mul_one, Nat.add_zero, Nat.zero_add, Nat.sub_zero, Nat.reduceAdd, Nat.reduceMul]
  refine r_op (o_load hS rfl rfl rfl rfl (s_no ?_))
  dsimp only [putF, rd, Frame.get]
  refine r_op (o_bin rfl (by first | trivial | (unfold inI64; omega)) (s_no ?_))
  dsimp only [putF, rd, Frame.get]
  refine r_op (o_mov (s_no ?_))
  dsimp only [putF, rd, Frame.get]
  refine r_nil (c_keep ?_)
  dsimp only [List.map]
  dsimp only [putF, rd, Frame.get]
  with_reducible (refine on_n ?_)
  refine c_dec rfl (fun k2 => ?_) (fun k2 => ?_)
  · obtain ⟨b0, b1⟩ := tB k2
    obtain ⟨g, rfl⟩ : ∃ g : Nat, B = (g : Int) := ⟨B.toNat, by omega⟩
    have hg : g < T.length := by omega
    have htg := at_ hg
    have l6g : (gt T (g : Int)).length ≤ 600 := T600 _ (gt_mem b0 b1)
    refine c_opsD0 hS fun S hS => ?_
    refine d_zero ?_
    refine r_op (o_load hS rfl rfl rfl rfl (s_no ?_))
    dsimp only [putF, rd, Frame.get]
    refine r_op (o_faddr rfl (s_no ?_))
    dsimp only [putF, rd, Frame.get]
    simp only [Nat.zero_mul, Nat.mul_zero, Nat.mul_one, Nat.add_zero, Nat.zero_add, Nat.sub_zero, Nat.reduceAdd, Nat.reduceMul]
    refine r_op (o_load hS rfl rfl rfl rfl (s_no ?_))
    dsimp only [putF, rd, Frame.get]
    refine r_op (o_iaddr hS rfl rfl rfl (by omega) (s_no ?_))
    dsimp only [putF, rd, Frame.get]
    simp only [Nat.zero_mul, Nat.mul_zero, Nat.mul_one, Nat.add_zero, Nat.zero_add, Nat.sub_zero, Nat.reduceAdd, Nat.reduceMul]
    refine r_op (o_load hS rfl rfl (by assumption) rfl (s_no ?_))
    dsimp only [putF, rd, Frame.get]
    refine r_op (o_load hS rfl rfl rfl rfl (s_no ?_))
    dsimp only [putF, rd, Frame.get]
    refine r_op (o_faddr rfl (s_no ?_))
    dsimp only [putF, rd, Frame.get]
    simp only [Nat.zero_mul, Nat.mul_zero, Nat.mul_one, Nat.add_zero, Nat.zero_add, Nat.sub_zero, Nat.reduceAdd, Nat.reduceMul]
    refine r_op (o_load hS rfl rfl rfl rfl (s_no ?_))
    dsimp only [putF, rd, Frame.get]
    refine r_op (o_iaddr hS rfl rfl rfl (by omega) (s_no ?_))
    dsimp only [putF, rd, Frame.get]
    simp only [Nat.zero_mul, Nat.mul_zero, Nat.mul_one, Nat.add_zero, Nat.zero_add, Nat.sub_zero, Nat.reduceAdd, Nat.reduceMul]
    refine r_op (o_load hS rfl rfl (by assumption) rfl (s_no ?_))
    dsimp only [putF, rd, Frame.get]
    refine r_op (o_bin rfl (by first | trivial | (unfold inI64; omega)) (s_no ?_))
    dsimp only [putF, rd, Frame.get]
    refine r_op (o_mov (s_no ?_))
    dsimp only [putF, rd, Frame.get]
    refine r_nil (c_keep ?_)
    dsimp only [List.map]
    dsimp only [putF, rd, Frame.get]
    with_reducible (refine ob_n ?_; refine on_n ?_)
    exact rest2 0 (gt T (i : Int) ++ gt T (g : Int)) _ hf (fun _ => by unfold opText; rw [if_neg k1, if_pos k2]) (by rw [List.length_append]; omega) hS
  with_reducible (refine c_seq ?_)
  refine c_ops ?_
  refine r_op (o_faddr rfl (s_no ?_))
  dsimp only [putF, rd, Frame.get]
  simp only [Nat.zero_mul, Nat.mul_zero, Nat.mul_one, Nat.add_zero, Nat.zero_add, Nat.sub_zero, Nat.reduceAdd, Nat.reduceMul]
  refine r_op (o_load hS rfl rfl rfl rfl (s_no ?_))
  dsimp only [putF, rd, Frame.get]
  refine r_op (o_bin rfl (by first | trivial | (unfold inI64; omega)) (s_no ?_))
  dsimp only [putF, rd, Frame.get]
  refine r_op (o_mov (s_no ?_))
  dsimp only [putF, rd, Frame.get]
  refine r_nil (c_keep ?_)
  dsimp only [List.map]
  dsimp only [putF, rd, Frame.get]
  with_reducible (refine on_n ?_)
  refine c_dec rfl (fun k3 => ?_) (fun k3 => ?_)
  · have hat : 0 ≤ At ∧ At ≤ (gt T (i : Int)).length := by omega
    obtain ⟨n, rfl⟩ : ∃ n : Nat, At = (n : Int) := ⟨At.toNat, by omega⟩
    refine c_opsD0 hS fun S hS => ?_
    refine d_zero ?_
    refine r_op (o_load hS rfl rfl rfl rfl (s_no ?_))
    dsimp only [putF, rd, Frame.get]
    refine r_op (o_faddr rfl (s_no ?_))
    dsimp only [putF, rd, Frame.get]
    simp only [Nat.zero_mul, Nat.mul_zero, Nat.mul_one, Nat.add_zero, Nat.zero_add, Nat.sub_zero, Nat.reduceAdd, Nat.reduceMul]
    refine r_op (o_load hS rfl rfl rfl rfl (s_no ?_))
    dsimp only [putF, rd, Frame.get]
    refine r_op (o_iaddr hS rfl rfl rfl (by omega) (s_no ?_))
    dsimp only [putF, rd, Frame.get]
    simp only [Nat.zero_mul, Nat.mul_zero, Nat.mul_one, Nat.add_zero, Nat.zero_add, Nat.sub_zero, Nat.reduceAdd, Nat.reduceMul]
    refine r_op (o_load hS rfl rfl (by assumption) rfl (s_no ?_))
    dsimp only [putF, rd, Frame.get]
    refine r_op (o_faddr rfl (s_no ?_))
    dsimp only [putF, rd, Frame.get]
    simp only [Nat.zero_mul, Nat.mul_zero, Nat.mul_one, Nat.add_zero, Nat.zero_add, Nat.sub_zero, Nat.reduceAdd, Nat.reduceMul]
    refine r_op (o_load hS rfl rfl rfl rfl (s_no ?_))
    dsimp only [putF, rd, Frame.get]
    refine r_op ?_
    refine o_sliceS (s := gt T (i : Int)) rfl ⟨_, rfl⟩ rfl (by omega) (by omega) ?_; rw [List.drop_zero]
    refine s_no ?_
    dsimp only [putF, rd, Frame.get]
    refine r_op (o_mov (s_no ?_))
    dsimp only [putF, rd, Frame.get]
    refine r_nil (c_keep ?_)
    dsimp only [List.map]
    dsimp only [putF, rd, Frame.get]
    with_reducible (refine ob_n ?_; refine on_n ?_)
    exact rest2 0 ((gt T (i : Int)).take n) _ hf (fun _ => by unfold opText; rw [if_neg k1, if_neg k2, if_pos k3]; rfl) (by rw [List.length_take]; omega) hS
  with_reducible (refine c_seq ?_)
  refine c_ops ?_
  refine r_op (o_faddr rfl (s_no ?_))
  dsimp only [putF, rd, Frame.get]
  simp only [Nat.zero_mul, Nat.mul_zero, Nat.mul_one, Nat.add_zero, Nat.zero_add, Nat.sub_zero, Nat.reduceAdd, Nat.reduceMul]
  refine r_op (o_load hS rfl rfl rfl rfl (s_no ?_))
  dsimp only [putF, rd, Frame.get]
  refine r_op (o_bin rfl (by first | trivial | (unfold inI64; omega)) (s_no ?_))
  dsimp only [putF, rd, Frame.get]
  refine r_op (o_mov (s_no ?_))
  dsimp only [putF, rd, Frame.get]
  refine r_nil (c_keep ?_)
  dsimp only [List.map]
  dsimp only [putF, rd, Frame.get]
  with_reducible (refine on_n ?_)
  refine c_dec rfl (fun k4 => ?_) (fun k4 => ?_)
  · have hat : 0 ≤ At ∧ At ≤ (gt T (i : Int)).length := by omega
    obtain ⟨n, rfl⟩ : ∃ n : Nat, At = (n : Int) := ⟨At.toNat, by omega⟩
    refine c_opsD0 hS fun S hS => ?_
    refine d_zero ?_
    refine r_op (o_load hS rfl rfl rfl rfl (s_no ?_))
    dsimp only [putF, rd, Frame.get]
    refine r_op (o_faddr rfl (s_no ?_))
    dsimp only [putF, rd, Frame.get]
    simp only [Nat.zero_mul, Nat.mul_zero, Nat.mul_one, Nat.add_zero, Nat.zero_add, Nat.sub_zero, Nat.reduceAdd, Nat.reduceMul]
    refine r_op (o_load hS rfl rfl rfl rfl (s_no ?_))
    dsimp only [putF, rd, Frame.get]
    refine r_op (o_iaddr hS rfl rfl rfl (by omega) (s_no ?_))
    dsimp only [putF, rd, Frame.get]
    simp only [Nat.zero_mul, Nat.mul_zero, Nat.mul_one, Nat.add_zero, Nat.zero_add, Nat.sub_zero, Nat.reduceAdd, Nat.reduceMul]
    refine r_op (o_load hS rfl rfl (by assumption) rfl (s_no ?_))
    dsimp only [putF, rd, Frame.get]
    refine r_op (o_faddr rfl (s_no ?_))
    dsimp only [putF, rd, Frame.get]
    simp only [Nat.zero_mul, Nat.mul_zero, Nat.mul_one, Nat.add_zero, Nat.zero_add, Nat.sub_zero, Nat.reduceAdd, Nat.reduceMul]
    refine r_op (o_load hS rfl rfl rfl rfl (s_no ?_))
    dsimp only [putF, rd, Frame.get]
    refine r_op ?_
    refine o_sliceS (s := gt T (i : Int)) rfl rfl ⟨_, rfl⟩ (by omega) (by omega) ?_; rw [List.take_length]
    refine s_no ?_
    dsimp only [putF, rd, Frame.get]
    refine r_op (o_mov (s_no ?_))
    dsimp only [putF, rd, Frame.get]
    refine r_nil (c_keep ?_)
    dsimp only [List.map]
    dsimp only [putF, rd, Frame.get]
    with_reducible (refine ob_n ?_; refine on_n ?_)
    exact rest2 0 ((gt T (i : Int)).drop n) _ hf (fun _ => by unfold opText; rw [if_neg k1, if_neg k2, if_neg k3, if_pos k4]; rfl) (by rw [List.length_drop]; omega) hS
  have k5 : kd = 5 := by omega
  have hct : 0 ≤ Ct ∧ Ct ≤ 4 := by omega
  obtain ⟨n, rfl⟩ : ∃ n : Nat, Ct = (n : Int) := ⟨Ct.toNat, by omega⟩
  with_reducible (refine c_seq ?_)
  refine c_ops ?_
  refine r_op (o_mov (s_no ?_))
  dsimp only [putF, rd, Frame.get]
  refine r_nil (c_keep ?_)
  dsimp only [List.map]
  dsimp only [putF, rd, Frame.get]
  with_reducible (refine on_n ?_; refine c_block ?_)
  refine c_loop (fun k xs S => ∃ h : Nat, xs = [.str ((List.replicate h (gt T (i : Int))).flatten), .int .i64 (h : Int)] ∧ h ≤ n ∧ k = n - h ∧ Has S (BoxR l5 v5 (.sl p v 0 T.length) (pt p (.row v 1 (T.map .str))) + (pt p2 (.row v2 1 (C.map (.int .i64))) + (pt l9 (.row v9 0 [.int .i64 kd, .str tx, .int .i64 (i : Int), .int .i64 B, .int .i64 At, .int .i64 (n : Int)]) + (X + mf))))) n ⟨0, rfl, Nat.zero_le _, rfl, hS⟩ ?_
  clear hS
  rintro k xs S hl' ⟨h, rfl, hh, rfl, hS⟩
  dsimp only [zipF, List.map, Frame.get]
  have fl := flat_len (gt T (i : Int)) h
  have hm1 : (gt T (i : Int)).length * h ≤ 600 * 4 := Nat.mul_le_mul l6 (by omega)
  with_reducible (refine c_seq ?_; refine c_seq ?_)
  refine c_ops ?_
  refine r_op (o_mov (s_no ?_))
  dsimp only [putF, rd, Frame.get]
  refine r_op (o_faddr rfl (s_no ?_))
  dsimp only [putF, rd, Frame.get]
  simp only [Nat.zero_mul, Nat.mul_zero, Nat.mul_one, Nat.add_zero, Nat.zero_add, Nat.sub_zero, Nat.reduceAdd, Nat.reduceMul]
  refine r_op (o_load hS rfl rfl rfl rfl (s_no ?_))
  dsimp only [putF, rd, Frame.get]
  refine r_op (o_bin rfl (by first | trivial | (unfold inI64; omega)) (s_no ?_))
  dsimp only [putF, rd, Frame.get]
  refine r_nil (c_keep ?_)
  dsimp only [List.map]
  dsimp only [putF, rd, Frame.get]
  with_reducible (refine on_n ?_)
  refine c_dec rfl (fun hlt => ?_) (fun hlt => ?_)
  · with_reducible (refine c_skip ?_; refine on_n ?_; refine c_seq ?_; refine c_block ?_)
    refine c_ops ?_
    refine r_op (o_mov (s_no ?_))
    dsimp only [putF, rd, Frame.get]
    refine r_op (o_load hS rfl rfl rfl rfl (s_no ?_))
    dsimp only [putF, rd, Frame.get]
    refine r_op (o_faddr rfl (s_no ?_))
    dsimp only [putF, rd, Frame.get]
    simp only [Nat.zero_mul, Nat.mul_zero, Nat.mul_one, Nat.add_zero, Nat.zero_add, Nat.sub_zero, Nat.reduceAdd, Nat.reduceMul]
    refine r_op (o_load hS rfl rfl rfl rfl (s_no ?_))
    dsimp only [putF, rd, Frame.get]
    refine r_op (o_iaddr hS rfl rfl rfl (by omega) (s_no ?_))
    dsimp only [putF, rd, Frame.get]
    simp only [Nat.zero_mul, Nat.mul_zero, Nat.mul_one, Nat.add_zero, Nat.zero_add, Nat.sub_zero, Nat.reduceAdd, Nat.reduceMul]
    refine r_op (o_load hS rfl rfl (by assumption) rfl (s_no ?_))
    dsimp only [putF, rd, Frame.get]
    refine r_op (o_bin rfl (by first | trivial | (unfold inI64; omega)) (s_no ?_))
    dsimp only [putF, rd, Frame.get]
    refine r_op (o_mov (s_no ?_))
    dsimp only [putF, rd, Frame.get]
    refine r_nil (c_keep ?_)
    dsimp only [List.map]
    dsimp only [putF, rd, Frame.get]
    with_reducible (refine ob_n ?_; refine on_n ?_)
    refine c_ops ?_
    refine r_op (o_mov (s_no ?_))
    dsimp only [putF, rd, Frame.get]
    refine r_op (o_bin rfl (by first | trivial | (unfold inI64; omega)) (s_no ?_))
    dsimp only [putF, rd, Frame.get]
    refine r_op (o_mov (s_no ?_))
    dsimp only [putF, rd, Frame.get]
    refine r_nil (c_keep ?_)
    dsimp only [List.map]
    dsimp only [putF, rd, Frame.get]
    with_reducible (refine on_n ?_)
    have er : (List.replicate (h + 1) (gt T (i : Int))).flatten = (List.replicate h (gt T (i : Int))).flatten ++ gt T (i : Int) := by rw [List.replicate_succ', List.flatten_append, List.flatten_singleton]
    refine ⟨n - (h + 1), by omega, h + 1, ?_, by omega, rfl, hS⟩
    rw [er]; rfl
  · obtain rfl : h = n := by omega
    with_reducible (refine c_exit ?_; refine on_e ?_; refine on_e ?_; refine ob_e ?_; refine ob_n ?_; refine on_n ?_)
    exact rest2 0 _ _ hf (fun _ => by unfold opText; rw [if_neg k1, if_neg k2, if_neg k3, if_neg k4]; rfl) (by rw [fl]; omega) hS
theorem map_str (l : List Bytes) : l.map AVal.str = l.flatMap (encT .str) := by
  induction l with
  | nil => rfl
  | cons a l ih => exact congrArg (fun z => AVal.str a :: z) ih
theorem rope_ref_con : Con Try.prog f_ref_RopePlayed ref_RopePlayed_ct := by
  refine ⟨ref_RopePlayed_ok.able rfl, fun (l : List Go.Fu.Op) hp => ?_⟩
  refine HC.plainly (ref_walk l hp) ?_
  rintro r m' S' (⟨hb, rfl⟩ | ⟨hb, x, ml, p2, v2, X, rfl, hs, rfl⟩) hS
  · refine ⟨_, id, [], .refl _, has_none, [.nils, .nils, .int .i64 1], ?_, rfl⟩
    show resA [.own .str, .own tI, .val tI] (ropeTexts l) 0 _ _
    have e : ropeTexts l = ([], [], 1) := by unfold ropeTexts iteP; rw [if_pos hb]
    rw [e]
    exact .inr ⟨rfl, _, rfl, .inr ⟨rfl, _, rfl, _, rfl, rfl, rfl⟩⟩
  · have e : ropeTexts l = (opsT l, opsC [] l, 0) := by unfold ropeTexts iteP; rw [if_neg hb]
    have hl2 := opsC_len l []
    rw [map_int] at hS
    rcases hs with ⟨rfl, h0, h1, rfl⟩ | ⟨p, v, rfl, rfl, hl1⟩
    · have hT : opsT l = [] := List.eq_nil_of_length_eq_zero h0
      rw [HM.nil_add] at hS
      refine ⟨.tup [.nils, .sl 0 v2 0 l.length, .int .i64 0], _, _, .tup (.cons (.refl _) (.cons .sl (.refl _))), has_one hS, [.nils, .sl 0 v2 0 l.length, .int .i64 0], ?_, rfl⟩
      show resA [.own .str, .own tI, .val tI] (ropeTexts l) 0 _ _
      rw [e, hT]
      refine .inr ⟨rfl, [.sl 0 v2 0 l.length, .int .i64 0], rfl, .inl ⟨v2, [.int .i64 0], [], ?_, rfl, [], rfl, rfl, rfl⟩⟩
      show _ = AVal.sl 0 v2 0 (opsC [] l).length :: _
      rw [hl2]
    · rw [map_str] at hS
      refine ⟨.tup [.sl 0 v 0 (opsT l).length, .sl 1 v2 0 l.length, .int .i64 0], _, _, .tup (.cons .sl (.cons .sl (.refl _))), has_two hS, [.sl 0 v 0 (opsT l).length, .sl 1 v2 0 l.length, .int .i64 0], ?_, rfl⟩
      show resA [.own .str, .own tI, .val tI] (ropeTexts l) 0 _ _
      rw [e]
      refine .inl ⟨v, [.sl 1 v2 0 l.length, .int .i64 0], _, rfl, rfl, .inl ⟨v2, [.int .i64 0], [], ?_, rfl, [], rfl, rfl, rfl⟩⟩
      show _ = AVal.sl 1 v2 0 (opsC [] l).length :: _
      rw [hl2]
end Go.Proofs.Ytgiglabejffciaa.R
