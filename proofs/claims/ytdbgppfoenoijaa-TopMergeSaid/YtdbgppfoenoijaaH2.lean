/- Hunks of the way between two lists of lines, walked: the function itself. Conditions: none. -/
import Derived.Test.YtdbgppfoenoijaaH1
set_option linter.unusedVariables false
set_option linter.unusedSimpArgs false
set_option maxRecDepth 100000
namespace Go.Proofs.Ytdbgppfoenoijaa.H
open Go.Vc Go.Fu
theorem setCells_mid : ∀ {A B : List AVal} {x z : AVal} {n : Nat}, A.length = n → setCells (A ++ x :: B) n [z] = A ++ z :: B
  | [], B, x, z, n, h => by subst h; cases B <;> rfl
  | a :: A, B, x, z, n, h => by subst h; show a :: setCells (A ++ x :: B) A.length [z] = _; rw [setCells_mid rfl]; rfl
theorem setCells_mid1 {A B : List AVal} {w x z : AVal} {n : Nat} (h : A.length = n) : setCells (A ++ w :: x :: B) (n + 1) [z] = A ++ w :: z :: B := by
  have := setCells_mid (A := A ++ [w]) (B := B) (x := x) (z := z) (n := n + 1) (by simp [h])
  simpa using this
theorem setCells_mid2 {A B : List AVal} {u w x z : AVal} {n : Nat} (h : A.length = n) : setCells (A ++ u :: w :: x :: B) (n + 2) [z] = A ++ u :: w :: z :: B := by
  have := setCells_mid (A := A ++ [u, w]) (B := B) (x := x) (z := z) (n := n + 2) (by simp [h])
  simpa using this
theorem takeN_mid2 {A B : List AVal} {u w x : AVal} {n : Nat} (h : A.length = n) : takeN 1 ((A ++ u :: w :: x :: B).drop (n + 2)) = some [x] := by
  subst h
  rw [show A ++ u :: w :: x :: B = (A ++ [u, w]) ++ x :: B by simp, show A.length + 2 = (A ++ [u, w]).length by simp, List.drop_left]
  rfl

theorem hunks_walk (hW : Con Try.prog f_diff_Way diff_Way_ct) (base other : Lines) (hb : base.length ≤ 80) (ho : other.length ≤ 80) :
    HC Try.prog f_merge_hunks [.ros base.length (strs base), .ros other.length (strs other)] HM.nil fun r m' => ∃ p v cs mo X, r = .sl p v 0 (hunksOf base other).length ∧ HkR (hunksOf base other) cs mo ∧ m' = pt p (.row v 3 cs) + (mo + X) := by
  intro S mf hS
  refine merge_hunks_ok.out rfl ?_ (by simp [merge_hunks_fi])
  unfold vcFun merge_hunks_fi
  dsimp only
  unfold merge_hunks_c
  dsimp only [argF]
  with_reducible (refine c_seq ?_)
  refine c_ops ?_
  refine r_op (o_mov (s_no ?_))
  dsimp only [putF, rd, Frame.get]
  refine r_nil (c_keep ?_)
  dsimp only [List.map]
  dsimp only [putF, rd, Frame.get]
  with_reducible (refine on_n ?_; refine c_seq ?_)
  refine c_ops ?_
  refine r_op (o_newnil hS fun v5 l5 S hS => s_no ?_)
  dsimp only [putF, rd, Frame.get]
  refine r_nil (c_keep ?_)
  dsimp only [List.map]
  dsimp only [putF, rd, Frame.get]
  with_reducible (refine on_n ?_; refine c_seq ?_)
  refine c_ops ?_
  refine r_op (o_mov (s_no ?_))
  dsimp only [putF, rd, Frame.get]
  refine r_op (o_mov (s_no ?_))
  dsimp only [putF, rd, Frame.get]
  refine r_nil (c_keep ?_)
  dsimp only [List.map]
  dsimp only [putF, rd, Frame.get]
  with_reducible (refine on_n ?_; refine c_seq ?_)
  refine c_ops ?_
  refine r_op (o_mov (s_no ?_))
  dsimp only [putF, rd, Frame.get]
  refine r_nil (c_keep ?_)
  dsimp only [List.map]
  dsimp only [putF, rd, Frame.get]
  with_reducible (refine on_n ?_; refine c_seq ?_; refine c_seq ?_)
  refine c_ops ?_
  refine r_op (o_mov (s_no ?_))
  dsimp only [putF, rd, Frame.get]
  refine r_op (o_mov (s_no ?_))
  dsimp only [putF, rd, Frame.get]
  refine r_op (o_call ?_)
  dsimp only [List.map, putF, rd, Frame.get]
  refine way_use hW ⟨hb, ho⟩ ?_
  refine s_no ?_
  refine r_op (o_len rfl (s_no ?_))
  dsimp only [putF, rd, Frame.get]
  refine r_op (o_mov (s_no ?_))
  dsimp only [putF, rd, Frame.get]
  refine r_nil (c_keep ?_)
  dsimp only [List.map]
  dsimp only [putF, rd, Frame.get]
  with_reducible (refine on_n ?_; refine c_block ?_)
  have hs := way_few base other
  have hso := hunksOf_steps base other
  have hpl := fun j s => way_place base other j (s := s)
  have hpos := way_steps base other
  generalize stepsOf (wayKinds base other) = st at *
  generalize hunksOf base other = HO at *
  refine c_loop (fun n xs S => ∃ (j v : Nat) (s : HS) (cs : List AVal) (mo X : HM), xs = [.sl l5 v 0 s.out.length, .int .i64 (s.at_ : Int), .int .i64 (s.to : Int), .bool s.kept, .int .i64 (j : Int)] ∧ j ≤ st.length ∧ n = st.length - j ∧
    s = (st.take j).foldl (hStep other) hStart ∧ HkR s.out cs mo ∧ Has S (pt l5 (.row v 3 cs) + (mo + (X + mf)))) st.length ⟨0, v5, hStart, [], HM.nil, HM.nil, rfl, Nat.zero_le _, rfl, rfl, ⟨rfl, rfl⟩, hS.eq (by show _ = pt l5 (.row v5 3 []) + (HM.nil + (HM.nil + mf)); ac_rfl)⟩ ?_
  clear hS
  rintro n xs S hl' ⟨j, v, s, cs, mo, X, rfl, hj, rfl, hst, hh, hS⟩
  dsimp only [zipF, List.map, Frame.get]
  with_reducible (refine c_seq ?_)
  refine c_ops ?_
  refine r_op (o_bin rfl (by first | trivial | (unfold inI64; omega)) (s_no ?_))
  dsimp only [putF, rd, Frame.get]
  refine r_nil (c_keep ?_)
  dsimp only [List.map]
  dsimp only [putF, rd, Frame.get]
  with_reducible (refine on_n ?_; refine c_seq ?_)
  refine c_dec rfl (fun hlt => ?_) (fun hlt => ?_)
  rotate_left
  · obtain rfl : j = st.length := by omega
    rw [List.take_of_length_le (Nat.le_refl _)] at hst
    obtain rfl : HO = s.out := by rw [hso, hst]
    with_reducible (refine c_exit ?_; refine on_e ?_; refine on_e ?_; refine ob_e ?_; refine on_n ?_; refine c_seq ?_)
    refine c_ops ?_
    refine r_op (o_mov (s_no ?_))
    dsimp only [putF, rd, Frame.get]
    refine r_op (o_mov (s_no ?_))
    dsimp only [putF, rd, Frame.get]
    refine r_nil (c_keep ?_)
    dsimp only [List.map]
    dsimp only [putF, rd, Frame.get]
    with_reducible (refine on_n ?_; refine c_ret ?_)
    dsimp only
    unfold merge_hunks_r
    refine w_tmp (w_nil ?_)
    dsimp only [retV, Frame.get]
    exact ⟨_, ⟨l5, v, cs, mo, X, rfl, hh, rfl⟩, hS.eq (by ac_rfl)⟩
  obtain ⟨d, hdj⟩ : ∃ d, st[j]? = some d := ⟨_, List.getElem?_eq_getElem (by omega)⟩
  have ht := encS_at hdj
  obtain ⟨p1, p2, p3⟩ := hpl j d hdj
  obtain ⟨d1, d2, d3⟩ := hpos d (List.mem_of_getElem? hdj)
  rw [← hst] at p1 p2 p3
  have hB : HB s := by rw [hst]; exact HB.start.steps _
  obtain ⟨b1, b2⟩ := hB.opened
  obtain ⟨kd, ct⟩ := d
  obtain ⟨c, rfl⟩ := Int.eq_ofNat_of_zero_le (show 0 ≤ ct by simp only at d1; omega)
  simp only [Int.toNat_natCast] at p1 p2 d1 d2 d3
  have hc0 : 0 < c := by omega
  with_reducible (refine c_skip ?_; refine on_n ?_)
  refine c_join fun K1 hK1 => ?_
  have rest1 : ∀ (v : Nat) (s' : HS) (cs : List AVal) (mo X : HM) (S : Store), s' = hStep other s (kd, (c : Int)) → HkR s'.out cs mo → Has S (pt l5 (.row v 3 cs) + (mo + (X + mf))) → K1 [.sl l5 v 0 s'.out.length, .int .i64 (s'.at_ : Int), .int .i64 (s'.to : Int), .bool s'.kept] S := by
    intro v s' cs mo X S e hh hS
    refine hK1 _ _ rfl ?_
    dsimp only [zipF, List.map, Frame.get]
    refine c_ops ?_
    refine r_op (o_bin rfl (by first | trivial | (unfold inI64; omega)) (s_no ?_))
    dsimp only [putF, rd, Frame.get]
    refine r_op (o_mov (s_no ?_))
    dsimp only [putF, rd, Frame.get]
    refine r_nil (c_keep ?_)
    dsimp only [List.map]
    dsimp only [putF, rd, Frame.get]
    with_reducible (refine on_n ?_)
    exact ⟨st.length - (j + 1), by omega, j + 1, v, s', cs, mo, X, rfl, by omega, rfl, by rw [p3, e], hh, hS⟩
  have hK1 := True.intro
  with_reducible (refine c_block ?_; refine c_seq ?_)
  refine c_ops ?_
  refine r_op (o_iaddrR rfl rfl (by omega) (by assumption) (s_no ?_))
  dsimp only [putF, rd, Frame.get]
  refine r_op (o_loadR rfl rfl rfl (s_no ?_))
  dsimp only [putF, rd, Frame.get]
  refine r_op (o_alloc hS fun v10 l10 S hS => s_no ?_)
  dsimp only [putF, rd, Frame.get]
  refine r_op (o_store hS rfl rfl rfl rfl (by simp) fun S hS => s_no ?_)
  dsimp only [putF, rd, Frame.get]
  dsimp only [putF, rd, Frame.get, setCells, over] at hS
  refine r_nil (c_keep ?_)
  dsimp only [List.map]
  dsimp only [putF, rd, Frame.get]
  with_reducible (refine on_n ?_; refine c_seq ?_; refine c_seq ?_)
  refine c_ops ?_
  refine r_op (o_faddr rfl (s_no ?_))
  dsimp only [putF, rd, Frame.get]
  simp only [Nat.zero_mul, Nat.mul_zero, Nat.mul_one, Nat.add_zero, Nat.zero_add, Nat.sub_zero, Nat.reduceAdd, Nat.reduceMul]
  refine r_op (o_load hS rfl rfl rfl rfl (s_no ?_))
  dsimp only [putF, rd, Frame.get]
  refine r_op (o_bin rfl (by first | trivial | (unfold inI64; omega)) (s_no ?_))
  dsimp only [putF, rd, Frame.get]
  refine r_nil (c_keep ?_)
  dsimp only [List.map]
  dsimp only [putF, rd, Frame.get]
  with_reducible (refine on_n ?_)
  have hS := hS.eq (m' := pt l5 (.row v 3 cs) + (mo + ((X + pt l10 (.row v10 0 [.int .i64 kd, .int .i64 (c : Int)])) + mf))) (by ac_rfl)
  refine c_dec rfl (fun hk => ?_) (fun hk => ?_)
  · subst hk
    rw [if_neg (by decide)] at p1 p2
    have e := hStep_keep other c s hc0
    with_reducible (refine c_seq ?_)
    refine c_opsD0 hS fun S hS => ?_
    refine d_zero ?_
    refine r_op (o_mov (s_no ?_))
    dsimp only [putF, rd, Frame.get]
    refine r_op (o_faddr rfl (s_no ?_))
    dsimp only [putF, rd, Frame.get]
    simp only [Nat.zero_mul, Nat.mul_zero, Nat.mul_one, Nat.add_zero, Nat.zero_add, Nat.sub_zero, Nat.reduceAdd, Nat.reduceMul]
    refine r_op (o_load hS rfl rfl rfl rfl (s_no ?_))
    dsimp only [putF, rd, Frame.get]
    refine r_op (o_bin rfl (by first | trivial | (unfold inI64; omega)) (s_no ?_))
    dsimp only [putF, rd, Frame.get]
    refine r_op (o_mov (s_no ?_))
    dsimp only [putF, rd, Frame.get]
    refine r_op (o_faddr rfl (s_no ?_))
    dsimp only [putF, rd, Frame.get]
    simp only [Nat.zero_mul, Nat.mul_zero, Nat.mul_one, Nat.add_zero, Nat.zero_add, Nat.sub_zero, Nat.reduceAdd, Nat.reduceMul]
    refine r_op (o_load hS rfl rfl rfl rfl (s_no ?_))
    dsimp only [putF, rd, Frame.get]
    refine r_op (o_bin rfl (by first | trivial | (unfold inI64; omega)) (s_no ?_))
    dsimp only [putF, rd, Frame.get]
    refine r_op (o_mov (s_no ?_))
    dsimp only [putF, rd, Frame.get]
    refine r_op (o_mov (s_no ?_))
    dsimp only [putF, rd, Frame.get]
    refine r_op (o_mov (s_no ?_))
    dsimp only [putF, rd, Frame.get]
    refine r_nil (c_keep ?_)
    dsimp only [List.map]
    dsimp only [putF, rd, Frame.get]
    with_reducible (refine on_n ?_; refine c_exit ?_; refine on_e ?_; refine ob_e ?_; refine on_n ?_)
    have := rest1 v _ cs mo _ _ rfl (by show HkR (hStep other s (1, (c : Int))).out cs mo; unfold hStep; rw [Int.toNat_natCast, e]; exact hh) hS
    unfold hStep at this
    rw [Int.toNat_natCast, e] at this
    exact this
  with_reducible (refine c_skip ?_; refine on_n ?_)
  refine c_join fun K2 hK2 => ?_
  have rest2 : ∀ (v : Nat) (cs : List AVal) (mo X : HM) (S : Store), HkR (hOpened s) cs mo → Has S (pt l5 (.row v 3 cs) + (mo + ((X + pt l10 (.row v10 0 [.int .i64 kd, .int .i64 (c : Int)])) + mf))) → K2 [.sl l5 v 0 (hOpened s).length, .bool false] S := by
    intro v cs mo X S hh hS
    refine hK2 _ _ rfl ?_
    dsimp only [zipF, List.map, Frame.get]
    obtain ⟨L, g, hL⟩ : ∃ L g, hOpened s = L ++ [g] := by
      rcases List.eq_nil_or_concat (hOpened s) with e | ⟨L, g, e⟩
      · exact absurd e hB.open_ne
      · exact ⟨L, g, by rw [e, List.concat_eq_append]⟩
    have hLl : (hOpened s).length = L.length + 1 := by rw [hL]; simp
    have hgl := b2 g (by rw [hL]; simp)
    rw [hLl] at b1 ⊢
    rw [hL] at hh
    obtain ⟨c1, c2, m1, m2, rfl, rfl, q1, q2⟩ := hh.split
    obtain ⟨x, rfl, sx⟩ := HkR.one.1 q2
    have hA := q1.clen
    with_reducible (refine c_seq ?_)
    refine c_ops ?_
    refine r_op (o_mov (s_no ?_))
    dsimp only [putF, rd, Frame.get]
    refine r_op (o_mov (s_no ?_))
    dsimp only [putF, rd, Frame.get]
    refine r_op (o_len rfl (s_no ?_))
    dsimp only [putF, rd, Frame.get]
    refine r_op ?_
    refine o_bin rfl (by unfold inI64; omega) ?_; rw [show ((L.length + 1 : Nat) : Int) - 1 = (L.length : Int) by omega]
    refine s_no ?_
    dsimp only [putF, rd, Frame.get]
    refine r_op (o_iaddr hS rfl rfl rfl (by omega) (s_no ?_))
    dsimp only [putF, rd, Frame.get]
    simp only [Nat.zero_mul, Nat.mul_zero, Nat.mul_one, Nat.add_zero, Nat.zero_add, Nat.sub_zero, Nat.reduceAdd, Nat.reduceMul]
    refine r_op (o_mov (s_no ?_))
    dsimp only [putF, rd, Frame.get]
    refine r_nil (c_keep ?_)
    dsimp only [List.map]
    dsimp only [putF, rd, Frame.get]
    rw [← hA]
    with_reducible (refine on_n ?_; refine c_seq ?_)
    refine c_ops ?_
    refine r_op (o_faddr rfl (s_no ?_))
    dsimp only [putF, rd, Frame.get]
    simp only [Nat.zero_mul, Nat.mul_zero, Nat.mul_one, Nat.add_zero, Nat.zero_add, Nat.sub_zero, Nat.reduceAdd, Nat.reduceMul]
    refine r_op (o_load hS rfl rfl rfl rfl (s_no ?_))
    dsimp only [putF, rd, Frame.get]
    refine r_op (o_bin rfl (by first | trivial | (unfold inI64; omega)) (s_no ?_))
    dsimp only [putF, rd, Frame.get]
    refine r_nil (c_keep ?_)
    dsimp only [List.map]
    dsimp only [putF, rd, Frame.get]
    with_reducible (refine on_n ?_)
    have fin : ∀ (g' : Hunk) (x' : AVal) (m2' X : HM) (S : Store) (s' : HS), s' = hStep other s (kd, (c : Int)) → s'.out = L ++ [g'] → s'.kept = false → SlR 1 x' (strs g'.2.2) g'.2.2.length m2' →
        Has S (pt l5 (.row v 3 (c1 ++ [.int .i64 g'.1, .int .i64 g'.2.1, x'])) + ((m1 + m2') + (X + mf))) → K1 [.sl l5 v 0 (L.length + 1), .int .i64 (s'.at_ : Int), .int .i64 (s'.to : Int), .bool false] S := by
      intro g' x' m2' X S s' e1 e2 e3 e4 hS
      have := rest1 v s' _ (m1 + m2') X S e1 (by rw [e2]; exact q1.app (HkR.one.2 ⟨x', rfl, e4⟩)) hS
      rw [e2, e3] at this
      simpa using this
    refine c_dec rfl (fun hk2 => ?_) (fun hk2 => ?_)
    · subst hk2
      rw [if_neg (by decide)] at p2
      have e := hStep_drop other c s hc0
      have es : hStep other s (2, (c : Int)) = ⟨s.at_ + c, s.to, false, L ++ [(g.1, s.at_ + c, g.2.2)]⟩ := by
        unfold hStep; rw [Int.toNat_natCast, e, hL, modLast_snoc]
      with_reducible (refine c_seq ?_)
      refine c_ops ?_
      refine r_op (o_mov (s_no ?_))
      dsimp only [putF, rd, Frame.get]
      refine r_op (o_faddr rfl (s_no ?_))
      dsimp only [putF, rd, Frame.get]
      simp only [Nat.zero_mul, Nat.mul_zero, Nat.mul_one, Nat.add_zero, Nat.zero_add, Nat.sub_zero, Nat.reduceAdd, Nat.reduceMul]
      refine r_op (o_load hS rfl rfl rfl rfl (s_no ?_))
      dsimp only [putF, rd, Frame.get]
      refine r_op (o_bin rfl (by first | trivial | (unfold inI64; omega)) (s_no ?_))
      dsimp only [putF, rd, Frame.get]
      refine r_op (o_mov (s_no ?_))
      dsimp only [putF, rd, Frame.get]
      refine r_nil (c_keep ?_)
      dsimp only [List.map]
      dsimp only [putF, rd, Frame.get]
      with_reducible (refine on_n ?_)
      refine c_ops ?_
      refine r_op (o_mov (s_no ?_))
      dsimp only [putF, rd, Frame.get]
      refine r_op (o_mov (s_no ?_))
      dsimp only [putF, rd, Frame.get]
      refine r_op (o_nilchk rfl (s_no ?_))
      dsimp only [putF, rd, Frame.get]
      refine r_op (o_faddr rfl (s_no ?_))
      dsimp only [putF, rd, Frame.get]
      refine r_op ?_
      refine o_store hS rfl rfl rfl rfl (by simp) fun S hS => ?_; (try dsimp only [putF, rd, Frame.get] at hS); rw [setCells_mid1 rfl] at hS
      refine s_no ?_
      dsimp only [putF, rd, Frame.get]
      refine r_nil (c_keep ?_)
      dsimp only [List.map]
      dsimp only [putF, rd, Frame.get]
      with_reducible (refine ob_n ?_; refine on_n ?_)
      have := fin (g.1, s.at_ + c, g.2.2) x m2 _ _ _ rfl (by rw [es]) (by rw [es]) sx hS
      rw [es] at this
      exact this
    · have hk3 : kd = 3 := by omega
      subst hk3
      rw [if_neg (by decide)] at p1
      have e := hStep_take other c s hc0 p1
      have es : hStep other s (3, (c : Int)) = ⟨s.at_, s.to + c, false, L ++ [(g.1, g.2.1, g.2.2 ++ (other.take (s.to + c)).drop s.to)]⟩ := by
        unfold hStep; rw [Int.toNat_natCast, e, hL, modLast_snoc]
      with_reducible (refine c_seq ?_)
      have eL : ((strs g.2.2) ++ subL (strs other) s.to (s.to + c - s.to)) = strs (g.2.2 ++ (other.take (s.to + c)).drop s.to) := by
        unfold subL strs
        rw [List.map_append, List.map_drop, List.map_take, List.drop_take]
      have hcs : other.length * 1 ≤ (strs other).length := by simp [strs]
      refine c_opsD0 hS fun S hS => ?_
      refine d_zero ?_
      refine r_op (o_mov (s_no ?_))
      dsimp only [putF, rd, Frame.get]
      refine r_op (o_mov (s_no ?_))
      dsimp only [putF, rd, Frame.get]
      refine r_op (o_nilchk rfl (s_no ?_))
      dsimp only [putF, rd, Frame.get]
      refine r_op (o_faddr rfl (s_no ?_))
      dsimp only [putF, rd, Frame.get]
      refine r_op ?_
      refine o_load hS rfl rfl (takeN_mid2 rfl) rfl ?_
      refine s_no ?_
      dsimp only [putF, rd, Frame.get]
      refine r_op (o_mov (s_no ?_))
      dsimp only [putF, rd, Frame.get]
      refine r_op (o_mov (s_no ?_))
      dsimp only [putF, rd, Frame.get]
      refine r_op (o_mov (s_no ?_))
      dsimp only [putF, rd, Frame.get]
      refine r_op (o_faddr rfl (s_no ?_))
      dsimp only [putF, rd, Frame.get]
      simp only [Nat.zero_mul, Nat.mul_zero, Nat.mul_one, Nat.add_zero, Nat.zero_add, Nat.sub_zero, Nat.reduceAdd, Nat.reduceMul]
      refine r_op (o_load hS rfl rfl rfl rfl (s_no ?_))
      dsimp only [putF, rd, Frame.get]
      refine r_op ?_
      refine o_bin rfl (by first | trivial | (unfold inI64; omega)) ?_; rw [show (s.to : Int) + (c : Int) = ((s.to + c : Nat) : Int) by omega]
      refine s_no ?_
      dsimp only [putF, rd, Frame.get]
      refine r_op (o_sliceR rfl ⟨_, rfl⟩ ⟨_, rfl⟩ (by omega) (by omega) (by assumption) (s_no ?_))
      dsimp only [putF, rd, Frame.get]
      simp only [Nat.zero_mul, Nat.mul_zero, Nat.mul_one, Nat.add_zero, Nat.zero_add, Nat.sub_zero, Nat.reduceAdd, Nat.reduceMul]
      refine r_op ?_
      refine o_appendR hS rfl sx ⟨rfl, by simp [subL]; omega, (List.take_of_length_le (by simp [subL]; omega)).symm⟩ (by simp [subL]; omega) (by omega) fun x' m2' S sx' hS => ?_
      refine s_no ?_
      dsimp only [putF, rd, Frame.get]
      refine r_op (o_nilchk rfl (s_no ?_))
      dsimp only [putF, rd, Frame.get]
      refine r_op (o_faddr rfl (s_no ?_))
      dsimp only [putF, rd, Frame.get]
      refine r_op ?_
      refine o_store hS rfl rfl sx'.cl rfl (by simp) fun S hS => ?_; (try dsimp only [putF, rd, Frame.get] at hS); rw [setCells_mid2 rfl] at hS
      refine s_no ?_
      dsimp only [putF, rd, Frame.get]
      refine r_nil (c_keep ?_)
      dsimp only [List.map]
      dsimp only [putF, rd, Frame.get]
      with_reducible (refine on_n ?_)
      refine c_ops ?_
      refine r_op (o_mov (s_no ?_))
      dsimp only [putF, rd, Frame.get]
      refine r_op (o_faddr rfl (s_no ?_))
      dsimp only [putF, rd, Frame.get]
      simp only [Nat.zero_mul, Nat.mul_zero, Nat.mul_one, Nat.add_zero, Nat.zero_add, Nat.sub_zero, Nat.reduceAdd, Nat.reduceMul]
      refine r_op (o_load hS rfl rfl rfl rfl (s_no ?_))
      dsimp only [putF, rd, Frame.get]
      refine r_op (o_bin rfl (by first | trivial | (unfold inI64; omega)) (s_no ?_))
      dsimp only [putF, rd, Frame.get]
      refine r_op (o_mov (s_no ?_))
      dsimp only [putF, rd, Frame.get]
      refine r_nil (c_keep ?_)
      dsimp only [List.map]
      dsimp only [putF, rd, Frame.get]
      with_reducible (refine ob_n ?_; refine on_n ?_)
      rw [eL] at sx'
      have := fin (g.1, g.2.1, g.2.2 ++ (other.take (s.to + c)).drop s.to) x' m2' _ _ _ rfl (by rw [es]) (by rw [es]) (by have e3 : (g.2.2 ++ (other.take (s.to + c)).drop s.to).length = g.2.2.length + (s.to + c - s.to) := by { simp; omega }; show SlR 1 x' _ (g.2.2 ++ (other.take (s.to + c)).drop s.to).length _; rw [e3]; exact sx') (hS.eq (m' := pt l5 (.row v 3 (c1 ++ [.int .i64 g.1, .int .i64 g.2.1, x'])) + ((m1 + m2') + ((X + pt l10 (.row v10 0 [.int .i64 3, .int .i64 (c : Int)])) + mf))) (by ac_rfl))
      rw [es] at this
      exact this
  with_reducible (refine c_seq ?_)
  refine c_ops ?_
  refine r_op (o_mov (s_no ?_))
  dsimp only [putF, rd, Frame.get]
  refine r_nil (c_keep ?_)
  dsimp only [List.map]
  dsimp only [putF, rd, Frame.get]
  with_reducible (refine on_n ?_)
  have hcl := hh.clen
  refine c_bool rfl (fun hb => ?_) (fun hb => ?_)
  · have eo : hOpened s = s.out ++ [(s.at_, s.at_, [])] := by unfold hOpened; rw [hb]; rfl
    have := hB.few
    with_reducible (refine c_seq ?_)
    refine c_ops ?_
    refine r_op (o_mov (s_no ?_))
    dsimp only [putF, rd, Frame.get]
    refine r_op (o_mov (s_no ?_))
    dsimp only [putF, rd, Frame.get]
    refine r_op (o_mov (s_no ?_))
    dsimp only [putF, rd, Frame.get]
    refine r_op (o_build rfl (s_no ?_))
    dsimp only [putF, rd, Frame.get, setCells, over]
    refine r_op (o_bsliceR rfl (s_no ?_))
    dsimp only [putF, rd, Frame.get, setCells, over]
    refine r_op ?_
    refine o_appendX hS rfl (SrcOf.one rfl) rfl hcl (by omega) fun v' S hS => ?_
    refine s_no ?_
    dsimp only [putF, rd, Frame.get]
    refine r_op (o_mov (s_no ?_))
    dsimp only [putF, rd, Frame.get]
    refine r_nil (c_keep ?_)
    dsimp only [List.map]
    dsimp only [putF, rd, Frame.get]
    with_reducible (refine on_n ?_)
    refine c_ops ?_
    refine r_op (o_mov (s_no ?_))
    dsimp only [putF, rd, Frame.get]
    refine r_nil (c_keep ?_)
    dsimp only [List.map]
    dsimp only [putF, rd, Frame.get]
    with_reducible (refine on_n ?_)
    have := rest2 v' (cs ++ [.int .i64 (s.at_ : Int), .int .i64 (s.at_ : Int), .nils]) (mo + HM.nil) X S (by rw [eo]; exact hh.app (HkR.one.2 ⟨.nils, rfl, SlR.nil⟩)) (by rw [HM.add_nil]; exact hS)
    rw [eo, List.length_append] at this
    exact this
  · have eo : hOpened s = s.out := hOpened_of hb
    with_reducible (refine c_skip ?_; refine on_n ?_)
    have := rest2 v cs mo X S (by rw [eo]; exact hh) hS
    rw [eo] at this
    rw [hb]
    exact this
/-- .. and read as what they are: nobody writes them any more. -/
theorem deref_strs {S : Store} {d : Nat} (l : Lines) : (strs l).map (derefT S d) = strs l := derefT_flat fun c hc => by
  obtain ⟨s, _, rfl⟩ := List.mem_map.1 hc
  exact derefT_str s
theorem deref_hunks {S : Store} : ∀ {l : List Hunk} {cs : List AVal} {m mf : HM}, HkR l cs m → Has S (m + mf) → cs.map (derefT S 2) = encHs l
  | [], cs, m, mf, h, hS => by rw [h.1]; rfl
  | g :: l, cs, m, mf, ⟨x, cs', m1, m2, h1, h2, h3, h⟩, hS => by
    subst h1 h2
    have e1 := deref_hunks h (mf := m1 + mf) (hS.eq (by ac_rfl))
    rw [List.map_cons, List.map_cons, List.map_cons, e1, encHs_cons, h3.derefT (mf := m2 + mf) (hS.eq (by ac_rfl)) 1, deref_strs, derefT_int, derefT_int]
theorem hunks_rc (hW : Con Try.prog f_diff_Way diff_Way_ct) (base other : Lines) (hb : base.length ≤ 80) (ho : other.length ≤ 80) :
    RC Try.prog f_merge_hunks [.ros base.length (strs base), .ros other.length (strs other)] (.ros (hunksOf base other).length (encHs (hunksOf base other))) := by
  refine RC.ofT 3 (hunks_walk hW base other hb ho) ?_
  rintro r m' S' ⟨p, v, cs, mo, X, rfl, hh, rfl⟩ hS
  have hl := hh.clen
  rw [derefT_row hS 2, show subL cs 0 ((hunksOf base other).length * 3) = cs by unfold subL; rw [List.drop_zero, List.take_of_length_le (by omega)]]
  rw [deref_hunks hh (mf := pt p (.row v 3 cs) + X) (hS.eq (by ac_rfl))]
end Go.Proofs.Ytdbgppfoenoijaa.H
