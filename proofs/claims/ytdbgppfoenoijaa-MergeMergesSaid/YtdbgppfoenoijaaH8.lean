/- What a way touches, as the rule says it, walked. Conditions: none. -/
import Derived.Test.YtdbgppfoenoijaaGR
import Derived.Test.YtdbgppfoenoijaaH7
import Derived.Test.YtdbgppfoenoijaaVpMO
set_option linter.unusedVariables false
set_option linter.unusedSimpArgs false
set_option maxRecDepth 100000
set_option maxHeartbeats 1000000
namespace Go.Proofs.Ytdbgppfoenoijaa.R
open Go.Vc Go.Fu
open H (strs strs_len strs_app encS encS_at strs_at strs_at1 strs_eq Rl deref_strs)
/-- Lists of lines in memory, each one's own. -/
def RsR : List Lines → List AVal → HM → Prop
  | [], cs, m => cs = [] ∧ m = HM.nil
  | e :: l, cs, m => ∃ x cs' m1 m2, cs = x :: cs' ∧ m = m1 + m2 ∧ SlR 1 x (strs e) e.length m1 ∧ RsR l cs' m2
theorem RsR.clen : ∀ {l : List Lines} {cs : List AVal} {m : HM}, RsR l cs m → cs.length = l.length
  | [], cs, m, h => by rw [h.1]; rfl
  | g :: l, cs, m, ⟨x, cs', m1, m2, h1, _, _, h⟩ => by rw [h1]; simp [RsR.clen h]
theorem RsR.nils : ∀ n : Nat, RsR (List.replicate n []) (List.replicate n [AVal.nils]).flatten HM.nil
  | 0 => ⟨rfl, rfl⟩
  | n + 1 => ⟨.nils, _, HM.nil, HM.nil, rfl, (HM.nil_add _).symm, SlR.nil, RsR.nils n⟩
/-- One of them. -/
theorem RsR.focus : ∀ {l : List Lines} {cs : List AVal} {m : HM} {a : Nat} {e : Lines}, RsR l cs m → l[a]? = some e → ∃ x mx m', takeN 1 (cs.drop a) = some [x] ∧ m = mx + m' ∧ SlR 1 x (strs e) e.length mx ∧
    ∀ x' e' mx', SlR 1 x' (strs e') e'.length mx' → RsR (l.set a e') (setCells cs a [x']) (mx' + m')
  | [], cs, m, a, e, h, he => by simp at he
  | g :: l, cs, m, 0, e, ⟨x, cs', m1, m2, h1, h2, h3, h4⟩, he => by
    subst h1 h2
    simp at he; subst he
    refine ⟨x, m1, m2, rfl, rfl, h3, fun x' e' mx' q => ?_⟩
    have e5 : setCells (x :: cs') 0 [x'] = x' :: cs' := by cases cs' <;> rfl
    rw [e5]
    exact ⟨x', cs', mx', m2, rfl, rfl, q, h4⟩
  | g :: l, cs, m, a + 1, e, ⟨x, cs', m1, m2, h1, h2, h3, h4⟩, he => by
    subst h1 h2
    obtain ⟨y, mx, m', k1, rfl, k3, k4⟩ := RsR.focus h4 (a := a) (e := e) (by simpa using he)
    exact ⟨y, mx, m1 + m', k1, by ac_rfl, k3, fun x' e' mx' q => ⟨x, setCells cs' a [x'], m1, mx' + m', rfl, by ac_rfl, h3, k4 x' e' mx' q⟩⟩
theorem RsR.deref {S : Store} : ∀ {l : List Lines} {cs : List AVal} {m mf : HM}, RsR l cs m → Has S (m + mf) → cs.map (derefT S 2) = l.map Rl
  | [], cs, m, mf, h, hS => by rw [h.1]; rfl
  | g :: l, cs, m, mf, ⟨x, cs', m1, m2, h1, h2, h3, h⟩, hS => by
    subst h1 h2
    have e1 := RsR.deref h (mf := m1 + mf) (hS.eq (by ac_rfl))
    rw [List.map_cons, e1, h3.derefT (mf := m2 + mf) (hS.eq (by ac_rfl)) 1, deref_strs]; rfl
theorem bl_deref {S : Store} {d : Nat} (g : Nat → Bool) (n : Nat) : (bl g n).map (derefT S d) = bl g n := derefT_flat fun c hc => by
  obtain ⟨i, _, rfl⟩ := List.mem_map.1 hc
  exact derefT_bool _
theorem steps_rc (hD : Con Try.prog f_ref_DiffSteps ref_DiffSteps_ct) {a b : Lines} (h : linesFault [a, b] = 0) : RC Try.prog f_ref_DiffSteps [Rl a, Rl b] (.tup [.ros (stepsOf (wayKinds a b)).length ((stepsOf (wayKinds a b)).flatMap encS), .int .i64 0]) := by
  have e : diffSteps a b = (stepsOf (wayKinds a b), 0) := by unfold diffSteps; rw [if_neg (by simpa using h)]
  have this : RC Try.prog f_ref_DiffSteps [encA (.sl .str) a, encA (.sl .str) b] (.tup [encA (.sl tSt) (diffSteps a b).1, encA tI (diffSteps a b).2]) := hD.frozen2 (a, b) trivial (fun S v => derefT_int _ _)
  rw [strs_eq, strs_eq, e] at this
  exact this

theorem touched_walk (hD : Con Try.prog f_ref_DiffSteps ref_DiffSteps_ct) (base other : Lines) (hf : linesFault [base, other] = 0) (hb : base.length ≤ 80) (ho : other.length ≤ 80) :
    HC Try.prog f_ref_touched [Rl base, Rl other] HM.nil fun r m' => ∃ p1 v1 p2 v2 p3 v3 cs mp X, r = .tup [.sl p1 v1 0 (base.length + 1), .sl p2 v2 0 base.length, .sl p3 v3 0 (base.length + 1)] ∧ RsR (pl (touchOf base other).put (base.length + 1)) cs mp ∧
      m' = pt p1 (.row v1 1 (bl (touchOf base other).gap (base.length + 1))) + (pt p2 (.row v2 1 (bl (touchOf base other).gone base.length)) + (pt p3 (.row v3 1 cs) + (mp + X))) := by
  intro S mf hS
  refine ref_touched_ok.out rfl ?_ (by simp [ref_touched_fi])
  unfold vcFun ref_touched_fi
  dsimp only
  unfold ref_touched_c
  dsimp only [argF]
  with_reducible (refine c_seq ?_)
  refine c_ops ?_
  refine r_op (o_mov (s_no ?_))
  dsimp only [putF, rd, Frame.get]
  refine r_op (o_mov (s_no ?_))
  dsimp only [putF, rd, Frame.get]
  refine r_op (o_mov (s_no ?_))
  dsimp only [putF, rd, Frame.get]
  refine r_nil (c_keep ?_)
  dsimp only [List.map]
  dsimp only [putF, rd, Frame.get]
  with_reducible (refine on_n ?_; refine c_seq ?_)
  refine c_ops ?_
  refine r_op (o_mov (s_no ?_))
  dsimp only [putF, rd, Frame.get]
  refine r_op (o_len rfl (s_no ?_))
  dsimp only [putF, rd, Frame.get]
  refine r_op ?_
  refine o_bin rfl (by unfold inI64; omega) ?_; rw [show (base.length : Int) + 1 = ((base.length + 1 : Nat) : Int) by omega]
  refine s_no ?_
  dsimp only [putF, rd, Frame.get]
  refine r_op (o_mkslice hS rfl rfl (by omega) fun v20 l20 S hS => s_no ?_)
  dsimp only [putF, rd, Frame.get]
  refine r_op (o_mov (s_no ?_))
  dsimp only [putF, rd, Frame.get]
  refine r_nil (c_keep ?_)
  dsimp only [List.map]
  dsimp only [putF, rd, Frame.get]
  with_reducible (refine on_n ?_; refine c_seq ?_)
  refine c_ops ?_
  refine r_op (o_mov (s_no ?_))
  dsimp only [putF, rd, Frame.get]
  refine r_op (o_len rfl (s_no ?_))
  dsimp only [putF, rd, Frame.get]
  refine r_op (o_mkslice hS rfl rfl (by omega) fun v23 l23 S hS => s_no ?_)
  dsimp only [putF, rd, Frame.get]
  refine r_op (o_mov (s_no ?_))
  dsimp only [putF, rd, Frame.get]
  refine r_nil (c_keep ?_)
  dsimp only [List.map]
  dsimp only [putF, rd, Frame.get]
  with_reducible (refine on_n ?_; refine c_seq ?_)
  refine c_ops ?_
  refine r_op (o_mov (s_no ?_))
  dsimp only [putF, rd, Frame.get]
  refine r_op (o_len rfl (s_no ?_))
  dsimp only [putF, rd, Frame.get]
  refine r_op ?_
  refine o_bin rfl (by unfold inI64; omega) ?_; rw [show (base.length : Int) + 1 = ((base.length + 1 : Nat) : Int) by omega]
  refine s_no ?_
  dsimp only [putF, rd, Frame.get]
  refine r_op (o_mkslice hS rfl rfl (by omega) fun v27 l27 S hS => s_no ?_)
  dsimp only [putF, rd, Frame.get]
  refine r_op (o_mov (s_no ?_))
  dsimp only [putF, rd, Frame.get]
  refine r_nil (c_keep ?_)
  dsimp only [List.map]
  dsimp only [putF, rd, Frame.get]
  with_reducible (refine on_n ?_; refine c_seq ?_)
  refine c_ops ?_
  refine r_op (o_mov (s_no ?_))
  dsimp only [putF, rd, Frame.get]
  refine r_op (o_mov (s_no ?_))
  dsimp only [putF, rd, Frame.get]
  refine r_op (o_call ?_)
  dsimp only [List.map, putF, rd, Frame.get]
  refine (steps_rc hD hf).use ?_
  refine s_no ?_
  refine r_op (o_mov (s_no ?_))
  dsimp only [putF, rd, Frame.get]
  refine r_op (o_extract rfl rfl (s_no ?_))
  dsimp only [putF, rd, Frame.get]
  refine r_op (o_extract rfl rfl (s_no ?_))
  dsimp only [putF, rd, Frame.get]
  refine r_op (o_mov (s_no ?_))
  dsimp only [putF, rd, Frame.get]
  refine r_op (o_mov (s_no ?_))
  dsimp only [putF, rd, Frame.get]
  refine r_nil (c_keep ?_)
  dsimp only [List.map]
  dsimp only [putF, rd, Frame.get]
  with_reducible (refine on_n ?_; refine c_seq ?_)
  refine c_ops ?_
  refine r_op (o_mov (s_no ?_))
  dsimp only [putF, rd, Frame.get]
  refine r_nil (c_keep ?_)
  dsimp only [List.map]
  dsimp only [putF, rd, Frame.get]
  with_reducible (refine on_n ?_; refine c_seq ?_)
  refine c_ops ?_
  refine r_op (o_mov (s_no ?_))
  dsimp only [putF, rd, Frame.get]
  refine r_nil (c_keep ?_)
  dsimp only [List.map]
  dsimp only [putF, rd, Frame.get]
  with_reducible (refine on_n ?_; refine c_seq ?_; refine c_seq ?_)
  refine c_ops ?_
  refine r_op (o_mov (s_no ?_))
  dsimp only [putF, rd, Frame.get]
  refine r_op (o_len rfl (s_no ?_))
  dsimp only [putF, rd, Frame.get]
  refine r_op (o_mov (s_no ?_))
  dsimp only [putF, rd, Frame.get]
  refine r_nil (c_keep ?_)
  dsimp only [List.map]
  dsimp only [putF, rd, Frame.get]
  with_reducible (refine on_n ?_; refine c_block ?_)
  have hs := way_few base other
  have hto := touchOf_steps base other
  have hpl := fun j s => t_place base other j (s := s)
  have hpos := way_steps base other
  have hTB : ∀ l : List Step, TB (l.foldl (tStep other) tStart) := fun l => TB.start.steps l
  generalize stepsOf (wayKinds base other) = st at *
  generalize touchOf base other = TO at *
  have hcs : other.length * 1 ≤ (strs other).length := by rw [strs_len]; omega
  let M : TS → List AVal → HM → HM → HM := fun u cs mp X => pt l20 (.row v20 1 (bl u.t.gap (base.length + 1))) + (pt l23 (.row v23 1 (bl u.t.gone base.length)) + (pt l27 (.row v27 1 cs) + (mp + (X + mf))))
  have hM : ∀ u cs mp X, M u cs mp X = pt l20 (.row v20 1 (bl u.t.gap (base.length + 1))) + (pt l23 (.row v23 1 (bl u.t.gone base.length)) + (pt l27 (.row v27 1 cs) + (mp + (X + mf)))) := fun _ _ _ _ => rfl
  clear_value M
  refine c_loop (fun k xs S => ∃ (j : Nat) (u : TS) (cs : List AVal) (mp X : HM), xs = [.int .i64 (u.at_ : Int), .int .i64 (u.to : Int), .int .i64 (j : Int)] ∧ j ≤ st.length ∧ k = st.length - j ∧
    u = (st.take j).foldl (tStep other) tStart ∧ RsR (pl u.t.put (base.length + 1)) cs mp ∧ Has S (M u cs mp X)) st.length ⟨0, tStart, (List.replicate (base.length + 1) [AVal.nils]).flatten, HM.nil, HM.nil, rfl, Nat.zero_le _, rfl, rfl, ?_, ?_⟩ ?_
  · have : pl tStart.t.put (base.length + 1) = List.replicate (base.length + 1) [] := by
      unfold pl tStart
      apply List.ext_getElem <;> simp
    rw [this]; exact RsR.nils _
  · rw [hM]
    have e1 : bl tStart.t.gap (base.length + 1) = (List.replicate (base.length + 1) [AVal.bool false]).flatten := (bl_false _).symm
    have e2 : bl tStart.t.gone base.length = (List.replicate base.length [AVal.bool false]).flatten := (bl_false _).symm
    rw [e1, e2]
    exact hS.eq (by rw [show ∀ x : HM, HM.nil + x = x from HM.nil_add]; ac_rfl)
  clear hS
  rintro k xs S hl' ⟨j, u, cs, mp, X, rfl, hj, rfl, hu, hr, hS⟩
  dsimp only [zipF, List.map, Frame.get]
  with_reducible (refine c_seq ?_)
  refine c_ops ?_
  refine r_op (o_bin rfl (by first | trivial | (unfold inI64; omega)) (s_no ?_))
  dsimp only [putF, rd, Frame.get]
  refine r_nil (c_keep ?_)
  dsimp only [List.map]
  dsimp only [putF, rd, Frame.get]
  with_reducible (refine on_n ?_; refine c_seq ?_)
  refine c_dec rfl (fun hlt => ?_) (fun hlt => ?_)
  rotate_left
  · obtain rfl : j = st.length := by omega
    rw [List.take_of_length_le (Nat.le_refl _)] at hu
    obtain rfl : TO = u.t := by rw [hto, hu]
    rw [hM] at hS
    with_reducible (refine c_exit ?_; refine on_e ?_; refine on_e ?_; refine ob_e ?_; refine on_n ?_; refine c_seq ?_)
    refine c_ops ?_
    refine r_op (o_mov (s_no ?_))
    dsimp only [putF, rd, Frame.get]
    refine r_op (o_mov (s_no ?_))
    dsimp only [putF, rd, Frame.get]
    refine r_op (o_mov (s_no ?_))
    dsimp only [putF, rd, Frame.get]
    refine r_op (o_mov (s_no ?_))
    dsimp only [putF, rd, Frame.get]
    refine r_op (o_mov (s_no ?_))
    dsimp only [putF, rd, Frame.get]
    refine r_op (o_mov (s_no ?_))
    dsimp only [putF, rd, Frame.get]
    refine r_nil (c_keep ?_)
    dsimp only [List.map]
    dsimp only [putF, rd, Frame.get]
    with_reducible (refine on_n ?_; refine c_ret ?_)
    dsimp only
    unfold ref_touched_r
    refine w_tmp (w_tmp (w_tmp (w_nil ?_)))
    dsimp only [retV, Frame.get]
    exact ⟨_, ⟨l20, v20, l23, v23, l27, v27, cs, mp, X, rfl, hr, rfl⟩, hS.eq (by ac_rfl)⟩
  obtain ⟨d, hdj⟩ : ∃ d, st[j]? = some d := ⟨_, List.getElem?_eq_getElem (by omega)⟩
  have ht := encS_at hdj
  obtain ⟨p1, p2, p3⟩ := hpl j d hdj
  obtain ⟨d1, d2, d3⟩ := hpos d (List.mem_of_getElem? hdj)
  have hB : TB u := by rw [hu]; exact hTB _
  rw [← hu] at p1 p2 p3
  obtain ⟨kd, ct⟩ := d
  obtain ⟨c, rfl⟩ := Int.eq_ofNat_of_zero_le (show 0 ≤ ct by simp only at d1; omega)
  simp only [Int.toNat_natCast] at p1 p2 d1 d2 d3
  have hc80 : c ≤ 80 := by
    rcases (by omega : kd = 2 ∨ kd ≠ 2) with q | q
    · rw [if_neg (by omega)] at p2; omega
    · rw [if_neg q] at p1; omega
  with_reducible (refine c_skip ?_; refine on_n ?_; refine c_seq ?_; refine c_block ?_; refine c_seq ?_)
  refine c_ops ?_
  refine r_op (o_iaddrR rfl rfl (by omega) (by assumption) (s_no ?_))
  dsimp only [putF, rd, Frame.get]
  refine r_op (o_loadR rfl rfl rfl (s_no ?_))
  dsimp only [putF, rd, Frame.get]
  refine r_op (o_alloc hS fun v15 l15 S hS => s_no ?_)
  dsimp only [putF, rd, Frame.get]
  refine r_op (o_store hS rfl rfl rfl rfl (by simp) fun S hS => s_no ?_)
  dsimp only [putF, rd, Frame.get]
  dsimp only [putF, rd, Frame.get, setCells, over] at hS
  refine r_nil (c_keep ?_)
  dsimp only [List.map]
  dsimp only [putF, rd, Frame.get]
  with_reducible (refine on_n ?_; refine c_seq ?_)
  refine c_ops ?_
  refine r_op (o_mov (s_no ?_))
  dsimp only [putF, rd, Frame.get]
  refine r_nil (c_keep ?_)
  dsimp only [List.map]
  dsimp only [putF, rd, Frame.get]
  with_reducible (refine on_n ?_; refine c_block ?_)
  have hS := hS.eq (m' := M u cs mp (X + pt l15 (.row v15 0 [.int .i64 kd, .int .i64 (c : Int)]))) (by rw [hM, hM]; ac_rfl)
  refine c_loop (fun k xs S => ∃ (i : Nat) (u' : TS) (cs : List AVal) (mp X : HM), xs = [.int .i64 (u'.at_ : Int), .int .i64 (u'.to : Int), .int .i64 (i : Int)] ∧ i ≤ c ∧ k = c - i ∧
    u' = tUnits other u kd i ∧ RsR (pl u'.t.put (base.length + 1)) cs mp ∧ Has S (M u' cs mp (X + pt l15 (.row v15 0 [.int .i64 kd, .int .i64 (c : Int)])))) c ⟨0, u, cs, mp, X, rfl, Nat.zero_le _, rfl, rfl, hr, hS⟩ ?_
  clear hS
  rintro k xs S hl'' ⟨i, u', cs, mp, X, rfl, hi, rfl, hu', hr, hS⟩
  dsimp only [zipF, List.map, Frame.get]
  obtain ⟨a1, a2⟩ := tUnits_at other u kd ⟨d2, d3⟩ i
  rw [← hu'] at a1 a2
  have hB' : TB u' := by rw [hu']; exact hB.units _ _
  rw [hM] at hS
  with_reducible (refine c_seq ?_; refine c_seq ?_)
  refine c_ops ?_
  refine r_op (o_mov (s_no ?_))
  dsimp only [putF, rd, Frame.get]
  refine r_op (o_faddr rfl (s_no ?_))
  dsimp only [putF, rd, Frame.get]
  simp only [Nat.zero_mul, Nat.mul_zero, Nat.mul_one, Nat.add_zero, Nat.zero_add, Nat.sub_zero, Nat.reduceAdd, Nat.reduceMul]
  refine r_op (o_load hS rfl rfl rfl rfl (s_no ?_))
  dsimp only [putF, rd, Frame.get]
  refine r_op (o_bin rfl (by first | trivial | (unfold inI64; omega)) (s_no ?_))
  dsimp only [putF, rd, Frame.get]
  refine r_nil (c_keep ?_)
  dsimp only [List.map]
  dsimp only [putF, rd, Frame.get]
  with_reducible (refine on_n ?_)
  refine c_dec rfl (fun hin => ?_) (fun hin => ?_)
  rotate_left
  · obtain rfl : i = c := by omega
    with_reducible (refine c_exit ?_; refine on_e ?_; refine on_e ?_; refine ob_e ?_; refine ob_n ?_; refine on_n ?_)
    refine c_ops ?_
    refine r_op (o_bin rfl (by first | trivial | (unfold inI64; omega)) (s_no ?_))
    dsimp only [putF, rd, Frame.get]
    refine r_op (o_mov (s_no ?_))
    dsimp only [putF, rd, Frame.get]
    refine r_nil (c_keep ?_)
    dsimp only [List.map]
    dsimp only [putF, rd, Frame.get]
    with_reducible (refine on_n ?_)
    refine ⟨st.length - (j + 1), by omega, j + 1, u', cs, mp, _, rfl, by omega, rfl, by rw [p3, hu']; unfold tStep tUnits; rw [Int.toNat_natCast], hr, by rw [hM]; exact hS⟩
  have hin : i < c := by omega
  with_reducible (refine c_skip ?_; refine on_n ?_)
  refine c_join fun K1 hK1 => ?_
  have rest1 : ∀ (w : TS) (cs : List AVal) (mp X : HM) (S : Store), w = tUnit other u' kd → RsR (pl w.t.put (base.length + 1)) cs mp → Has S (M w cs mp (X + pt l15 (.row v15 0 [.int .i64 kd, .int .i64 (c : Int)]))) → K1 [.int .i64 (w.at_ : Int), .int .i64 (w.to : Int)] S := by
    intro w cs mp X S hw hr hS
    refine hK1 _ _ rfl ?_
    dsimp only [zipF, List.map, Frame.get]
    refine c_ops ?_
    refine r_op (o_mov (s_no ?_))
    dsimp only [putF, rd, Frame.get]
    refine r_op (o_bin rfl (by first | trivial | (unfold inI64; omega)) (s_no ?_))
    dsimp only [putF, rd, Frame.get]
    refine r_op (o_mov (s_no ?_))
    dsimp only [putF, rd, Frame.get]
    refine r_nil (c_keep ?_)
    dsimp only [List.map]
    dsimp only [putF, rd, Frame.get]
    with_reducible (refine on_n ?_)
    exact ⟨c - (i + 1), by omega, i + 1, w, cs, mp, X, rfl, by omega, rfl, by rw [tUnits_succ, ← hu', hw], hr, hS⟩
  clear hK1
  with_reducible (refine c_block ?_; refine c_seq ?_)
  refine c_ops ?_
  refine r_op (o_faddr rfl (s_no ?_))
  dsimp only [putF, rd, Frame.get]
  simp only [Nat.zero_mul, Nat.mul_zero, Nat.mul_one, Nat.add_zero, Nat.zero_add, Nat.sub_zero, Nat.reduceAdd, Nat.reduceMul]
  refine r_op (o_load hS rfl rfl rfl rfl (s_no ?_))
  dsimp only [putF, rd, Frame.get]
  refine r_nil (c_keep ?_)
  dsimp only [List.map]
  dsimp only [putF, rd, Frame.get]
  with_reducible (refine on_n ?_; refine c_block ?_; refine c_seq ?_)
  refine c_ops ?_
  refine r_op (o_bin rfl (by first | trivial | (unfold inI64; omega)) (s_no ?_))
  dsimp only [putF, rd, Frame.get]
  refine r_op (o_mov (s_no ?_))
  dsimp only [putF, rd, Frame.get]
  refine r_nil (c_keep ?_)
  dsimp only [List.map]
  dsimp only [putF, rd, Frame.get]
  with_reducible (refine on_n ?_)
  refine c_dec rfl (fun hk => ?_) (fun hk => ?_)
  · subst hk
    rw [if_neg (by decide)] at p1 p2 a1 a2
    have ew : tUnit other u' 1 = ⟨u'.at_ + 1, u'.to + 1, u'.t⟩ := rfl
    with_reducible (refine c_seq ?_)
    refine c_ops ?_
    refine r_op (o_mov (s_no ?_))
    dsimp only [putF, rd, Frame.get]
    refine r_op (o_bin rfl (by first | trivial | (unfold inI64; omega)) (s_no ?_))
    dsimp only [putF, rd, Frame.get]
    refine r_op (o_mov (s_no ?_))
    dsimp only [putF, rd, Frame.get]
    refine r_nil (c_keep ?_)
    dsimp only [List.map]
    dsimp only [putF, rd, Frame.get]
    with_reducible (refine on_n ?_)
    refine c_ops ?_
    refine r_op (o_mov (s_no ?_))
    dsimp only [putF, rd, Frame.get]
    refine r_op (o_bin rfl (by first | trivial | (unfold inI64; omega)) (s_no ?_))
    dsimp only [putF, rd, Frame.get]
    refine r_op (o_mov (s_no ?_))
    dsimp only [putF, rd, Frame.get]
    refine r_nil (c_keep ?_)
    dsimp only [List.map]
    dsimp only [putF, rd, Frame.get]
    with_reducible (refine ob_n ?_; refine ob_n ?_; refine on_n ?_)
    have := rest1 _ cs mp X _ rfl (by rw [ew]; exact hr) (by rw [ew, hM]; exact hS)
    rw [ew] at this
    exact this
  with_reducible (refine c_seq ?_)
  refine c_ops ?_
  refine r_op (o_bin rfl (by first | trivial | (unfold inI64; omega)) (s_no ?_))
  dsimp only [putF, rd, Frame.get]
  refine r_op (o_mov (s_no ?_))
  dsimp only [putF, rd, Frame.get]
  refine r_nil (c_keep ?_)
  dsimp only [List.map]
  dsimp only [putF, rd, Frame.get]
  with_reducible (refine on_n ?_)
  refine c_dec rfl (fun hk2 => ?_) (fun hk2 => ?_)
  · subst hk2
    rw [if_neg (by decide)] at p2 a1
    have ew : tUnit other u' 2 = ⟨u'.at_ + 1, u'.to, ⟨fun i => if i = u'.at_ ∨ i = u'.at_ + 1 then true else u'.t.gap i, fun i => if i = u'.at_ then true else u'.t.gone i, u'.t.put⟩⟩ := rfl
    with_reducible (refine c_seq ?_)
    refine c_ops ?_
    refine r_op (o_mov (s_no ?_))
    dsimp only [putF, rd, Frame.get]
    refine r_op (o_mov (s_no ?_))
    dsimp only [putF, rd, Frame.get]
    refine r_op (o_iaddr hS rfl rfl rfl (by omega) (s_no ?_))
    dsimp only [putF, rd, Frame.get]
    simp only [Nat.zero_mul, Nat.mul_zero, Nat.mul_one, Nat.add_zero, Nat.zero_add, Nat.sub_zero, Nat.reduceAdd, Nat.reduceMul]
    refine r_op ?_
    refine o_store hS rfl rfl rfl rfl (by rw [bl_len]; first | omega | (simp; omega)) fun S hS => ?_; (try dsimp only [putF, rd, Frame.get] at hS); rw [bl_set (by omega)] at hS
    refine s_no ?_
    dsimp only [putF, rd, Frame.get]
    refine r_nil (c_keep ?_)
    dsimp only [List.map]
    dsimp only [putF, rd, Frame.get]
    with_reducible (refine on_n ?_; refine c_seq ?_)
    refine c_ops ?_
    refine r_op (o_mov (s_no ?_))
    dsimp only [putF, rd, Frame.get]
    refine r_op (o_mov (s_no ?_))
    dsimp only [putF, rd, Frame.get]
    refine r_op (o_iaddr hS rfl rfl rfl (by omega) (s_no ?_))
    dsimp only [putF, rd, Frame.get]
    simp only [Nat.zero_mul, Nat.mul_zero, Nat.mul_one, Nat.add_zero, Nat.zero_add, Nat.sub_zero, Nat.reduceAdd, Nat.reduceMul]
    refine r_op ?_
    refine o_store hS rfl rfl rfl rfl (by rw [bl_len]; first | omega | (simp; omega)) fun S hS => ?_; (try dsimp only [putF, rd, Frame.get] at hS); rw [bl_set (by omega)] at hS
    refine s_no ?_
    dsimp only [putF, rd, Frame.get]
    refine r_nil (c_keep ?_)
    dsimp only [List.map]
    dsimp only [putF, rd, Frame.get]
    with_reducible (refine on_n ?_; refine c_seq ?_)
    refine c_ops ?_
    refine r_op (o_mov (s_no ?_))
    dsimp only [putF, rd, Frame.get]
    refine r_op (o_mov (s_no ?_))
    dsimp only [putF, rd, Frame.get]
    refine r_op ?_
    refine o_bin rfl (by unfold inI64; omega) ?_; rw [show (u'.at_ : Int) + 1 = ((u'.at_ + 1 : Nat) : Int) by omega]
    refine s_no ?_
    dsimp only [putF, rd, Frame.get]
    refine r_op (o_iaddr hS rfl rfl rfl (by omega) (s_no ?_))
    dsimp only [putF, rd, Frame.get]
    simp only [Nat.zero_mul, Nat.mul_zero, Nat.mul_one, Nat.add_zero, Nat.zero_add, Nat.sub_zero, Nat.reduceAdd, Nat.reduceMul]
    refine r_op ?_
    refine o_store hS rfl rfl rfl rfl (by rw [bl_len]; first | omega | (simp; omega)) fun S hS => ?_; (try dsimp only [putF, rd, Frame.get] at hS); rw [bl_set (by omega)] at hS
    refine s_no ?_
    dsimp only [putF, rd, Frame.get]
    refine r_nil (c_keep ?_)
    dsimp only [List.map]
    dsimp only [putF, rd, Frame.get]
    with_reducible (refine on_n ?_)
    refine c_ops ?_
    refine r_op (o_mov (s_no ?_))
    dsimp only [putF, rd, Frame.get]
    refine r_op (o_bin rfl (by first | trivial | (unfold inI64; omega)) (s_no ?_))
    dsimp only [putF, rd, Frame.get]
    refine r_op (o_mov (s_no ?_))
    dsimp only [putF, rd, Frame.get]
    refine r_nil (c_keep ?_)
    dsimp only [List.map]
    dsimp only [putF, rd, Frame.get]
    with_reducible (refine ob_n ?_; refine ob_n ?_; refine on_n ?_)
    have eg : (fun i => if i = u'.at_ + 1 then true else if i = u'.at_ then true else u'.t.gap i) = (fun i => if i = u'.at_ ∨ i = u'.at_ + 1 then true else u'.t.gap i) := by
      funext i
      by_cases q1 : i = u'.at_ <;> by_cases q2 : i = u'.at_ + 1 <;> simp [q1, q2]
    rw [eg] at hS
    have := rest1 _ cs mp X _ rfl (by rw [ew]; exact hr) (by rw [ew, hM]; exact hS)
    rw [ew] at this
    exact this
  have hk3 : kd = 3 := by omega
  subst hk3
  rw [if_neg (by decide)] at p1 a2
  rw [if_pos rfl] at p2 a1
  have ew : tUnit other u' 3 = ⟨u'.at_, u'.to + 1, ⟨fun i => if i = u'.at_ then true else u'.t.gap i, u'.t.gone, fun i => if i = u'.at_ then u'.t.put i ++ [other.getD u'.to []] else u'.t.put i⟩⟩ := rfl
  with_reducible (refine c_seq ?_)
  refine c_ops ?_
  refine r_op (o_bin rfl (by first | trivial | (unfold inI64; omega)) (s_no ?_))
  dsimp only [putF, rd, Frame.get]
  refine r_op (o_mov (s_no ?_))
  dsimp only [putF, rd, Frame.get]
  refine r_nil (c_keep ?_)
  dsimp only [List.map]
  dsimp only [putF, rd, Frame.get]
  with_reducible (refine on_n ?_)
  refine c_dec rfl (fun hk4 => ?_) (fun hk4 => ?_)
  rotate_left
  · exact absurd rfl hk4
  with_reducible (refine c_seq ?_)
  refine c_ops ?_
  refine r_op (o_mov (s_no ?_))
  dsimp only [putF, rd, Frame.get]
  refine r_op (o_mov (s_no ?_))
  dsimp only [putF, rd, Frame.get]
  refine r_op (o_iaddr hS rfl rfl rfl (by omega) (s_no ?_))
  dsimp only [putF, rd, Frame.get]
  simp only [Nat.zero_mul, Nat.mul_zero, Nat.mul_one, Nat.add_zero, Nat.zero_add, Nat.sub_zero, Nat.reduceAdd, Nat.reduceMul]
  refine r_op ?_
  refine o_store hS rfl rfl rfl rfl (by rw [bl_len]; first | omega | (simp; omega)) fun S hS => ?_; (try dsimp only [putF, rd, Frame.get] at hS); rw [bl_set (by omega)] at hS
  refine s_no ?_
  dsimp only [putF, rd, Frame.get]
  refine r_nil (c_keep ?_)
  dsimp only [List.map]
  dsimp only [putF, rd, Frame.get]
  with_reducible (refine on_n ?_; refine c_seq ?_)
  obtain ⟨x, mx, m0, f1, rfl, f3, f4⟩ := hr.focus (pl_at (p := u'.t.put) (show u'.at_ < base.length + 1 by omega))
  have f5 := hB' u'.at_
  have f6 := hr.clen
  rw [pl_len] at f6
  have hO : other[u'.to]? = some (other.getD u'.to []) := by
    rw [List.getElem?_eq_getElem (by omega)]; simp [List.getD, List.getElem?_eq_getElem (show u'.to < other.length by omega)]
  have ht1 := strs_at1 hO
  refine c_opsD0 hS fun S hS => ?_
  refine d_zero ?_
  refine r_op (o_mov (s_no ?_))
  dsimp only [putF, rd, Frame.get]
  refine r_op (o_mov (s_no ?_))
  dsimp only [putF, rd, Frame.get]
  refine r_op (o_mov (s_no ?_))
  dsimp only [putF, rd, Frame.get]
  refine r_op (o_mov (s_no ?_))
  dsimp only [putF, rd, Frame.get]
  refine r_op (o_iaddr hS rfl rfl rfl (by omega) (s_no ?_))
  dsimp only [putF, rd, Frame.get]
  simp only [Nat.zero_mul, Nat.mul_zero, Nat.mul_one, Nat.add_zero, Nat.zero_add, Nat.sub_zero, Nat.reduceAdd, Nat.reduceMul]
  refine r_op (o_load hS rfl rfl (by assumption) rfl (s_no ?_))
  dsimp only [putF, rd, Frame.get]
  refine r_op (o_mov (s_no ?_))
  dsimp only [putF, rd, Frame.get]
  refine r_op (o_mov (s_no ?_))
  dsimp only [putF, rd, Frame.get]
  refine r_op (o_iaddrR rfl rfl (by omega) (by assumption) (s_no ?_))
  dsimp only [putF, rd, Frame.get]
  refine r_op (o_loadR rfl rfl rfl (s_no ?_))
  dsimp only [putF, rd, Frame.get]
  refine r_op (o_bsliceR rfl (s_no ?_))
  dsimp only [putF, rd, Frame.get, setCells, over]
  refine r_op ?_
  refine o_appendR hS rfl f3 (SrcOf.one rfl) rfl (by omega) fun x' mx' S sx' hS => ?_
  refine s_no ?_
  dsimp only [putF, rd, Frame.get]
  refine r_op (o_iaddr hS rfl rfl rfl (by omega) (s_no ?_))
  dsimp only [putF, rd, Frame.get]
  simp only [Nat.zero_mul, Nat.mul_zero, Nat.mul_one, Nat.add_zero, Nat.zero_add, Nat.sub_zero, Nat.reduceAdd, Nat.reduceMul]
  refine r_op ?_
  refine o_store hS rfl rfl sx'.cl rfl (by omega) fun S hS => ?_; (try dsimp only [putF, rd, Frame.get] at hS)
  refine s_no ?_
  dsimp only [putF, rd, Frame.get]
  refine r_nil (c_keep ?_)
  dsimp only [List.map]
  dsimp only [putF, rd, Frame.get]
  with_reducible (refine on_n ?_)
  refine c_ops ?_
  refine r_op (o_mov (s_no ?_))
  dsimp only [putF, rd, Frame.get]
  refine r_op (o_bin rfl (by first | trivial | (unfold inI64; omega)) (s_no ?_))
  dsimp only [putF, rd, Frame.get]
  refine r_op (o_mov (s_no ?_))
  dsimp only [putF, rd, Frame.get]
  refine r_nil (c_keep ?_)
  dsimp only [List.map]
  dsimp only [putF, rd, Frame.get]
  with_reducible (refine ob_n ?_; refine ob_n ?_; refine on_n ?_)
  have sx2 : SlR 1 x' (strs (u'.t.put u'.at_ ++ [other.getD u'.to []])) (u'.t.put u'.at_ ++ [other.getD u'.to []]).length mx' := by
    rw [strs_app, List.length_append]; exact sx'
  have f7 := f4 x' _ mx' sx2
  rw [pl_set (by omega)] at f7
  have eq : (fun i => if i = u'.at_ then u'.t.put u'.at_ ++ [other.getD u'.to []] else u'.t.put i) = (fun i => if i = u'.at_ then u'.t.put i ++ [other.getD u'.to []] else u'.t.put i) := by
    funext i
    by_cases q : i = u'.at_
    · subst q; simp
    · simp [q]
  rw [eq] at f7
  have := rest1 _ _ (mx' + m0) X _ rfl (by rw [ew]; exact f7) (by rw [ew, hM]; exact hS.eq (by ac_rfl))
  rw [ew] at this
  exact this
end Go.Proofs.Ytdbgppfoenoijaa.R
