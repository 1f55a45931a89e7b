/- What hunks make of a part; lists of lines held against each other, walked. Conditions: none. -/
import Derived.Test.YtdbgppfoenoijaaH3
set_option linter.unusedVariables false
set_option linter.unusedSimpArgs false
set_option maxRecDepth 100000
namespace Go.Proofs.Ytdbgppfoenoijaa.H
open Go.Vc Go.Fu
theorem strs_len (l : Lines) : (strs l).length = l.length := List.length_map _
theorem strs_app (a b : Lines) : strs (a ++ b) = strs a ++ strs b := List.map_append
theorem strs_sub (l : Lines) (a b : Nat) : subL (strs l) a (b - a) = strs ((l.take b).drop a) := by
  unfold subL strs
  rw [List.map_drop, List.map_take, List.drop_take]
theorem sub_len (l : Lines) {a b : Nat} (h : a ≤ b) (hb : b ≤ l.length) : ((l.take b).drop a).length = b - a := by simp; omega
theorem SrcOf.strs {m : HM} (l : Lines) (n : Nat) (h : l.length = n) : SrcOf m 1 (.ros n (strs l)) n (strs l) := by
  subst h
  exact ⟨rfl, by rw [strs_len]; omega, (List.take_of_length_le (by rw [strs_len]; omega)).symm⟩
/-- Hunks that stand one behind the other, each with few lines. -/
theorem mkL_drop {base : Lines} {lo hi j : Nat} {l : List Hunk} {g : Hunk} (hg : l[j]? = some g) : mkL base lo hi (l.drop j) = (base.take g.1).drop lo ++ g.2.2 ++ mkL base g.2.1 hi (l.drop (j + 1)) := by
  have e : l.drop j = g :: l.drop (j + 1) := by
    obtain ⟨h1, h2⟩ := List.getElem?_eq_some_iff.1 hg
    rw [List.drop_eq_getElem_cons h1, h2]
  rw [e]; rfl
theorem hok_at {n j a : Nat} {l : List Hunk} {g : Hunk} (h : HOk n a (l.drop j)) (hg : l[j]? = some g) : a ≤ g.1 ∧ g.1 ≤ g.2.1 ∧ g.2.1 ≤ n ∧ HOk n g.2.1 (l.drop (j + 1)) := by
  have e : l.drop j = g :: l.drop (j + 1) := by
    obtain ⟨h1, h2⟩ := List.getElem?_eq_some_iff.1 hg
    rw [List.drop_eq_getElem_cons h1, h2]
  rw [e] at h
  obtain ⟨h1, h2, h3, h4⟩ := h
  exact ⟨h1, h2, h3, h4.mono (by omega)⟩

theorem made_walk (base : Lines) {lo hi : Nat} {l : List Hunk} {x : AVal} {m : HM} (hs : SlR 3 x (encHs l) l.length m) (hb : base.length ≤ 80) (hlo : lo ≤ hi) (hhi : hi ≤ base.length) (hl : l.length ≤ 1000) (hk : HOk hi lo l) (hln : ∀ h ∈ l, h.2.2.length ≤ 80) :
    HC Try.prog f_merge_made [.ros base.length (strs base), .int .i64 (lo : Int), .int .i64 (hi : Int), x] m fun r m' => (mkL base lo hi l).length ≤ 200000 ∧ ∃ p v X, r = .sl p v 0 (mkL base lo hi l).length ∧ m' = m + (pt p (.row v 1 (strs (mkL base lo hi l))) + X) := by
  intro S mf hS
  refine merge_made_ok.out rfl ?_ (by simp [merge_made_fi])
  unfold vcFun merge_made_fi
  dsimp only
  unfold merge_made_c
  dsimp only [argF]
  have hcs : base.length * 1 ≤ (strs base).length := by rw [strs_len]; omega
  with_reducible (refine c_seq ?_)
  refine c_ops ?_
  refine r_op (o_mov (s_no ?_))
  dsimp only [putF, rd, Frame.get]
  refine r_nil (c_keep ?_)
  dsimp only [List.map]
  dsimp only [putF, rd, Frame.get]
  with_reducible (refine on_n ?_; refine c_seq ?_)
  refine c_ops ?_
  refine r_op (o_newnil hS fun v9 l9 S hS => s_no ?_)
  dsimp only [putF, rd, Frame.get]
  refine r_nil (c_keep ?_)
  dsimp only [List.map]
  dsimp only [putF, rd, Frame.get]
  with_reducible (refine on_n ?_; refine c_seq ?_; refine c_seq ?_)
  refine c_ops ?_
  refine r_op (o_mov (s_no ?_))
  dsimp only [putF, rd, Frame.get]
  refine r_op ?_
  refine o_len hs.len ?_
  refine s_no ?_
  dsimp only [putF, rd, Frame.get]
  refine r_op (o_mov (s_no ?_))
  dsimp only [putF, rd, Frame.get]
  refine r_nil (c_keep ?_)
  dsimp only [List.map]
  dsimp only [putF, rd, Frame.get]
  with_reducible (refine on_n ?_; refine c_block ?_)
  refine c_loop (fun k xs S => ∃ (j lo' v : Nat) (out : Lines) (X : HM), xs = [.int .i64 (lo' : Int), .sl l9 v 0 out.length, .int .i64 (j : Int)] ∧ j ≤ l.length ∧ k = l.length - j ∧
    mkL base lo hi l = out ++ mkL base lo' hi (l.drop j) ∧ lo' ≤ hi ∧ HOk hi lo' (l.drop j) ∧ out.length ≤ 160 * j ∧ Has S (m + (pt l9 (.row v 1 (strs out)) + (X + mf)))) l.length ⟨0, lo, v9, [], HM.nil, rfl, Nat.zero_le _, rfl, rfl, hlo, hk, Nat.zero_le _, hS.eq (by show _ = m + (pt l9 (.row v9 1 []) + (HM.nil + mf)); ac_rfl)⟩ ?_
  clear hS
  rintro k xs S hl' ⟨j, lo', v, out, X, rfl, hj, rfl, hm, h1, h2, h3, hS⟩
  dsimp only [zipF, List.map, Frame.get]
  with_reducible (refine c_seq ?_)
  refine c_ops ?_
  refine r_op (o_bin rfl (by first | trivial | (unfold inI64; omega)) (s_no ?_))
  dsimp only [putF, rd, Frame.get]
  refine r_nil (c_keep ?_)
  dsimp only [List.map]
  dsimp only [putF, rd, Frame.get]
  with_reducible (refine on_n ?_; refine c_seq ?_)
  refine c_dec rfl (fun hlt => ?_) (fun hlt => ?_)
  · obtain ⟨g, hg⟩ : ∃ g, l[j]? = some g := ⟨_, List.getElem?_eq_getElem (by omega)⟩
    obtain ⟨g1, g2, g3, g4⟩ := hok_at h2 hg
    have g5 := hln g (List.mem_of_getElem? hg)
    have e0 := mkL_drop (base := base) (lo := lo') (hi := hi) hg
    obtain ⟨p, vp, off, cs, rfl, rfl, hle, hcc⟩ := hs.pos (by omega)
    have ht : takeN 3 (List.drop (off + j * 3) cs) = some [.int .i64 g.1, .int .i64 g.2.1, .ros g.2.2.length (strs g.2.2)] := by
      rw [take_sub hle (show j < l.length by omega), ← hcc, encHs_at hg]; rfl
    with_reducible (refine c_skip ?_; refine on_n ?_; refine c_seq ?_; refine c_block ?_; refine c_seq ?_)
    refine c_ops ?_
    refine r_op (o_iaddr hS rfl rfl rfl (by omega) (s_no ?_))
    dsimp only [putF, rd, Frame.get]
    refine r_op (o_load hS rfl rfl (by assumption) rfl (s_no ?_))
    dsimp only [putF, rd, Frame.get]
    refine r_op (o_alloc hS fun v11 l11 S hS => s_no ?_)
    dsimp only [putF, rd, Frame.get]
    refine r_op (o_store hS rfl rfl rfl rfl (by simp) fun S hS => s_no ?_)
    dsimp only [putF, rd, Frame.get]
    dsimp only [putF, rd, Frame.get, setCells, over] at hS
    refine r_nil (c_keep ?_)
    dsimp only [List.map]
    dsimp only [putF, rd, Frame.get]
    with_reducible (refine on_n ?_; refine c_seq ?_)
    refine c_opsD0 hS fun S hS => ?_
    refine d_zero ?_
    refine r_op (o_mov (s_no ?_))
    dsimp only [putF, rd, Frame.get]
    refine r_op (o_mov (s_no ?_))
    dsimp only [putF, rd, Frame.get]
    refine r_op (o_mov (s_no ?_))
    dsimp only [putF, rd, Frame.get]
    refine r_op (o_faddr rfl (s_no ?_))
    dsimp only [putF, rd, Frame.get]
    simp only [Nat.zero_mul, Nat.mul_zero, Nat.mul_one, Nat.add_zero, Nat.zero_add, Nat.sub_zero, Nat.reduceAdd, Nat.reduceMul]
    refine r_op (o_load hS rfl rfl rfl rfl (s_no ?_))
    dsimp only [putF, rd, Frame.get]
    refine r_op ?_
    refine o_sliceR rfl ⟨_, rfl⟩ ⟨_, rfl⟩ (by omega) (by omega) hcs ?_; rw [show lo' * (0 + 1) = lo' by omega, show (g.1 - lo') * (0 + 1) = g.1 - lo' by omega, strs_sub]
    refine s_no ?_
    dsimp only [putF, rd, Frame.get]
    refine r_op (o_faddr rfl (s_no ?_))
    dsimp only [putF, rd, Frame.get]
    simp only [Nat.zero_mul, Nat.mul_zero, Nat.mul_one, Nat.add_zero, Nat.zero_add, Nat.sub_zero, Nat.reduceAdd, Nat.reduceMul]
    refine r_op (o_load hS rfl rfl rfl rfl (s_no ?_))
    dsimp only [putF, rd, Frame.get]
    refine r_op ?_
    refine o_appendX hS rfl (SrcOf.strs _ _ (sub_len base g1 (by omega))) rfl (by rw [strs_len]; omega) (by omega) fun v1 S hS => ?_
    refine s_no ?_
    dsimp only [putF, rd, Frame.get]
    refine r_op (o_again hS rfl rfl rfl rfl rfl (s_no ?_))
    dsimp only [putF, rd, Frame.get]
    refine r_op ?_
    refine o_appendX hS rfl (SrcOf.strs _ _ rfl) rfl (by rw [List.length_append, strs_len, strs_len, sub_len base g1 (by omega)]; omega) (by omega) fun v2 S hS => ?_
    refine s_no ?_
    dsimp only [putF, rd, Frame.get]
    refine r_op (o_mov (s_no ?_))
    dsimp only [putF, rd, Frame.get]
    refine r_nil (c_keep ?_)
    dsimp only [List.map]
    dsimp only [putF, rd, Frame.get]
    with_reducible (refine on_n ?_)
    refine c_ops ?_
    refine r_op (o_faddr rfl (s_no ?_))
    dsimp only [putF, rd, Frame.get]
    simp only [Nat.zero_mul, Nat.mul_zero, Nat.mul_one, Nat.add_zero, Nat.zero_add, Nat.sub_zero, Nat.reduceAdd, Nat.reduceMul]
    refine r_op (o_load hS rfl rfl rfl rfl (s_no ?_))
    dsimp only [putF, rd, Frame.get]
    refine r_op (o_mov (s_no ?_))
    dsimp only [putF, rd, Frame.get]
    refine r_nil (c_keep ?_)
    dsimp only [List.map]
    dsimp only [putF, rd, Frame.get]
    with_reducible (refine ob_n ?_; refine on_n ?_)
    refine c_ops ?_
    refine r_op (o_bin rfl (by first | trivial | (unfold inI64; omega)) (s_no ?_))
    dsimp only [putF, rd, Frame.get]
    refine r_op (o_mov (s_no ?_))
    dsimp only [putF, rd, Frame.get]
    refine r_nil (c_keep ?_)
    dsimp only [List.map]
    dsimp only [putF, rd, Frame.get]
    with_reducible (refine on_n ?_)
    have e1 := sub_len base g1 (show g.1 ≤ base.length by omega)
    refine ⟨l.length - (j + 1), by omega, j + 1, g.2.1, v2, out ++ (base.take g.1).drop lo' ++ g.2.2, X + pt l11 (.row v11 0 [.int .i64 g.1, .int .i64 g.2.1, .ros g.2.2.length (strs g.2.2)]), ?_, by omega, rfl, ?_, g3, g4, ?_, ?_⟩
    · rw [List.length_append, List.length_append, e1]; rfl
    · rw [hm, e0]; simp only [List.append_assoc]
    · rw [List.length_append, List.length_append, e1]; omega
    · rw [strs_app, strs_app]; exact hS.eq (by ac_rfl)
  · obtain rfl : j = l.length := by omega
    have e0 : mkL base lo hi l = out ++ (base.take hi).drop lo' := by rw [hm, List.drop_of_length_le (Nat.le_refl _)]; rfl
    have e1 := sub_len base h1 hhi
    with_reducible (refine c_exit ?_; refine on_e ?_; refine on_e ?_; refine ob_e ?_; refine on_n ?_; refine c_seq ?_)
    refine c_ops ?_
    refine r_op (o_mov (s_no ?_))
    dsimp only [putF, rd, Frame.get]
    refine r_op (o_mov (s_no ?_))
    dsimp only [putF, rd, Frame.get]
    refine r_op (o_mov (s_no ?_))
    dsimp only [putF, rd, Frame.get]
    refine r_op (o_mov (s_no ?_))
    dsimp only [putF, rd, Frame.get]
    refine r_op ?_
    refine o_sliceR rfl ⟨_, rfl⟩ ⟨_, rfl⟩ (by omega) (by omega) hcs ?_; rw [show lo' * (0 + 1) = lo' by omega, show (hi - lo') * (0 + 1) = hi - lo' by omega, strs_sub]
    refine s_no ?_
    dsimp only [putF, rd, Frame.get]
    refine r_op ?_
    refine o_appendX hS rfl (SrcOf.strs _ _ e1) rfl (by rw [strs_len]; omega) (by omega) fun v1 S hS => ?_
    refine s_no ?_
    dsimp only [putF, rd, Frame.get]
    refine r_op (o_mov (s_no ?_))
    dsimp only [putF, rd, Frame.get]
    refine r_nil (c_keep ?_)
    dsimp only [List.map]
    dsimp only [putF, rd, Frame.get]
    with_reducible (refine on_n ?_; refine c_ret ?_)
    dsimp only
    unfold merge_made_r
    refine w_tmp (w_nil ?_)
    dsimp only [retV, Frame.get]
    have e2 : (mkL base lo hi l).length = out.length + (hi - lo') := by rw [e0, List.length_append, e1]
    rw [← strs_app, ← e0] at hS
    exact ⟨_, ⟨by omega, l9, v1, X, by rw [e2], rfl⟩, hS.eq (by ac_rfl)⟩
end Go.Proofs.Ytdbgppfoenoijaa.H
