/- Words of a text, noted in a table: walked. Conditions: none. -/
import Derived.Test.YtmpmlnjiolbplaaGW
import Derived.Test.YtmpmlnjiolbplaaVpWA
import Derived.Test.YtmpmlnjiolbplaaVh7
set_option linter.unusedVariables false
set_option linter.unusedSimpArgs false
set_option maxRecDepth 100000
namespace Go.Proofs.Ytmpmlnjiolbplaa.W
open Go.Vc Go.Fu
theorem part_use (hP : Con Try.prog f_words_part words_part_ct) {c : UInt8} {S : Store} {K : AVal → Store → Prop} (h : K (.bool (isP c)) S) : ACalls Try.prog f_words_part [.int .u8 (c.toNat : Int)] S K := hP.plain (c.toNat : Int) trivial rfl (by
  have e : bo (partI (c.toNat : Int)) = isP c := by rw [Bool.eq_iff_iff, bo_true, part_iff]
  show K (.bool (bo (partI (c.toNat : Int)))) S
  rw [e]; exact h)
theorem each_sl {s u : Bytes} {lo hi k n : Nat} (hu : u = (s.take hi).drop lo) (h : lo + k + n ≤ hi) : (s.take (lo + k + n)).drop (lo + k) = (u.drop k).take n := by
  rw [hu, List.drop_drop, List.drop_take, List.drop_take, List.take_take]
  congr 1; omega

theorem each_walk (hP : Con Try.prog f_words_part words_part_ct) {s u : Bytes} {lo hi : Nat} (hu : u = (s.take hi).drop lo) (hlo : lo ≤ hi) (hhi : hi ≤ s.length) (hs : s.length ≤ 1000000) (g : FuncId) (cap : List AVal) (C : Nat → HM → Prop)
    (hdo : ∀ i e c, (fromW u 0)[i]? = some e → C i c → HC Try.prog g (.str e.1 :: .int .i64 ((lo + e.2 : Nat) : Int) :: cap) c fun r m' => ∃ c' X, C (i + 1) c' ∧ m' = c' + X) (c : HM) (h0 : C 0 c) :
    HC Try.prog f_words_Each [.str s, .int .i64 (lo : Int), .int .i64 (hi : Int), .fn (.func g) [] cap] c fun r m' => ∃ c' X, C (fromW u 0).length c' ∧ m' = c' + X := by
  intro S mf hS
  refine words_Each_ok.out rfl ?_ (by simp [words_Each_fi])
  have hul : u.length = hi - lo := by rw [hu, List.length_drop, List.length_take]; omega
  unfold vcFun words_Each_fi
  dsimp only
  unfold words_Each_c
  dsimp only [argF]
  with_reducible (refine c_seq ?_)
  refine c_ops ?_
  refine r_op (o_mov (s_no ?_))
  dsimp only [putF, rd, Frame.get]
  refine r_op (o_mov (s_no ?_))
  dsimp only [putF, rd, Frame.get]
  refine r_nil (c_keep ?_)
  dsimp only [List.map]
  dsimp only [putF, rd, Frame.get]
  with_reducible (refine on_n ?_; refine c_block ?_)
  refine c_loop (fun n xs S => ∃ (k i : Nat) (c X : HM), xs = [.int .i64 ((lo + k : Nat) : Int)] ∧ n = u.length + 1 - k ∧ k ≤ u.length + 1 ∧ (k < u.length → opens u k) ∧ fromW u 0 = (fromW u 0).take i ++ fromW u k ∧ i + (fromW u k).length = (fromW u 0).length ∧ C i c ∧ Has S (c + (X + mf))) (u.length + 1) ⟨0, 0, c, HM.nil, rfl, rfl, Nat.zero_le _, fun _ => .inl rfl, by simp, by simp, h0, hS.eq (by rw [HM.nil_add])⟩ ?_
  clear hS h0 c
  rintro n xs S hl' ⟨k, i, c, X, rfl, rfl, hk, ho, hcut, hlen, hC, hS⟩
  dsimp only [zipF, List.map, Frame.get]
  with_reducible (refine c_seq ?_; refine c_seq ?_)
  refine c_ops ?_
  refine r_op (o_mov (s_no ?_))
  dsimp only [putF, rd, Frame.get]
  refine r_op (o_mov (s_no ?_))
  dsimp only [putF, rd, Frame.get]
  refine r_op (o_bin rfl (by first | trivial | (unfold inI64; omega)) (s_no ?_))
  dsimp only [putF, rd, Frame.get]
  refine r_nil (c_keep ?_)
  dsimp only [List.map]
  dsimp only [putF, rd, Frame.get]
  with_reducible (refine on_n ?_)
  refine c_dec rfl (fun hlt => ?_) (fun hlt => ?_)
  rotate_left
  · with_reducible (refine c_exit ?_; refine on_e ?_; refine on_e ?_; refine ob_e ?_)
    try dsimp only
    unfold words_Each_r
    refine w_nil ?_
    dsimp only [retV, Frame.get]
    rw [fromW_end (by omega)] at hlen
    refine ⟨_, ⟨c, X, ?_, rfl⟩, hS.eq (by ac_rfl)⟩
    rw [← hlen]; exact hC
  have hlt : k < u.length := by omega
  have ho := ho hlt
  have hnext := fromW_next hlt ho
  have hrl := runL_le u k
  with_reducible (refine c_skip ?_; refine on_n ?_)
  refine c_join fun K1 hK1 => ?_
  have rest1 : ∀ (i : Nat) (c X : HM) (S : Store), fromW u 0 = (fromW u 0).take i ++ fromW u (k + runL u k + 1) → i + (fromW u (k + runL u k + 1)).length = (fromW u 0).length → C i c → Has S (c + (X + mf)) → K1 [.int .i64 ((lo + k + runL u k : Nat) : Int)] S := by
    intro i c X S hcut hlen hC hS
    refine hK1 _ _ rfl ?_
    dsimp only [zipF, List.map, Frame.get]
    refine c_ops ?_
    refine r_op (o_mov (s_no ?_))
    dsimp only [putF, rd, Frame.get]
    refine r_op (o_bin rfl (by first | trivial | (unfold inI64; omega)) (s_no ?_))
    dsimp only [putF, rd, Frame.get]
    refine r_op (o_mov (s_no ?_))
    dsimp only [putF, rd, Frame.get]
    refine r_nil (c_keep ?_)
    dsimp only [List.map]
    dsimp only [putF, rd, Frame.get]
    with_reducible (refine on_n ?_)
    refine ⟨u.length + 1 - (k + runL u k + 1), by omega, k + runL u k + 1, i, c, X, by rw [show lo + (k + runL u k + 1) = lo + k + runL u k + 1 by omega]; rfl, rfl, by omega, fun h => opens_next (by omega), hcut, hlen, hC, hS⟩
  with_reducible (refine c_block ?_; refine c_seq ?_)
  refine c_ops ?_
  refine r_op (o_mov (s_no ?_))
  dsimp only [putF, rd, Frame.get]
  refine r_op (o_mov (s_no ?_))
  dsimp only [putF, rd, Frame.get]
  refine r_nil (c_keep ?_)
  dsimp only [List.map]
  dsimp only [putF, rd, Frame.get]
  with_reducible (refine on_n ?_; refine c_seq ?_; refine c_block ?_)
  refine c_loop (fun n xs S => ∃ j : Nat, xs = [.int .i64 ((lo + k + j : Nat) : Int)] ∧ j ≤ runL u k ∧ n = runL u k - j ∧ Has S (c + (X + mf))) (runL u k) ⟨0, rfl, Nat.zero_le _, rfl, hS⟩ ?_
  clear hS
  rintro n xs S hl2 ⟨j, rfl, hj, rfl, hS⟩
  dsimp only [zipF, List.map, Frame.get]
  by_cases h : k + j < u.length
  · obtain ⟨ch, hch⟩ : ∃ ch, u[k + j]? = some ch := ⟨_, List.getElem?_eq_getElem h⟩
    have hcs : s[lo + k + j]? = some ch := by
      rw [← hch, hu, List.getElem?_drop, List.getElem?_take, if_pos (by omega)]; congr 1; omega
    have hgt : gt u ((k + j : Nat) : Int) = ch := by
      have := gt_get? (l := u) (i := ((k + j : Nat) : Int)) (by omega) (by omega)
      rw [Int.toNat_natCast, hch] at this
      exact (Option.some.inj this).symm
    with_reducible (refine c_seq ?_; refine c_seq ?_)
    refine c_ops ?_
    refine r_op (o_mov (s_no ?_))
    dsimp only [putF, rd, Frame.get]
    refine r_op (o_mov (s_no ?_))
    dsimp only [putF, rd, Frame.get]
    refine r_op (o_bin rfl (by first | trivial | (unfold inI64; omega)) (s_no ?_))
    dsimp only [putF, rd, Frame.get]
    refine r_op ?_
    refine o_mov (s_dec (fun hg => ?_) (fun hg => by exfalso; omega))
    dsimp only [putF, rd, Frame.get]
    refine r_tt rfl (o_mov (s_no ?_))
    dsimp only [putF, rd, Frame.get]
    refine r_tt rfl (o_mov (s_no ?_))
    dsimp only [putF, rd, Frame.get]
    refine r_tt rfl (o_indexS rfl rfl (by assumption) (s_no ?_))
    dsimp only [putF, rd, Frame.get]
    refine r_tt rfl (o_call ?_)
    dsimp only [List.map, putF, rd, Frame.get]
    refine part_use hP (c := ch) ?_
    refine s_no ?_
    refine r_op (o_pickT rfl (s_no ?_))
    dsimp only [putF, rd, Frame.get]
    refine r_nil (c_keep ?_)
    dsimp only [List.map]
    dsimp only [putF, rd, Frame.get]
    by_cases q : j < runL u k
    · have hp : isP ch = true := by rw [← hgt]; exact run_at q
      rw [hp]
      with_reducible (refine on_n ?_)
      refine c_bool rfl (fun _ => ?_) (fun hb => by cases hb)
      with_reducible (refine c_skip ?_; refine on_n ?_; refine c_block ?_)
      refine c_ops ?_
      refine r_op (o_mov (s_no ?_))
      dsimp only [putF, rd, Frame.get]
      refine r_op (o_bin rfl (by first | trivial | (unfold inI64; omega)) (s_no ?_))
      dsimp only [putF, rd, Frame.get]
      refine r_op (o_mov (s_no ?_))
      dsimp only [putF, rd, Frame.get]
      refine r_nil (c_keep ?_)
      dsimp only [List.map]
      dsimp only [putF, rd, Frame.get]
      with_reducible (refine ob_n ?_; refine on_n ?_)
      exact ⟨runL u k - (j + 1), by omega, j + 1, rfl, by omega, rfl, hS⟩
    · obtain rfl : j = runL u k := by omega
      have hp : isP ch = false := by rw [← hgt]; exact run_end h
      rw [hp]
      with_reducible (refine on_n ?_)
      refine c_bool rfl (fun hb => by cases hb) (fun _ => ?_)
      with_reducible (refine c_exit ?_; refine on_e ?_; refine on_e ?_; refine ob_e ?_; refine on_n ?_; refine c_seq ?_)
      by_cases z : 0 < runL u k ∧ runL u k ≤ 12
      · rw [if_pos z] at hnext
        have he : (fromW u 0)[i]? = some ((u.drop k).take (runL u k), k) := by
          rw [hcut, List.getElem?_append_right (by rw [List.length_take]; omega), hnext]
          have : i - ((fromW u 0).take i).length = 0 := by rw [List.length_take]; omega
          rw [this]; rfl
        have hsl : (s.take (lo + k + runL u k)).drop (lo + k) = (u.drop k).take (runL u k) := each_sl hu (by omega)
        refine c_ops ?_
        refine r_op (o_mov (s_no ?_))
        dsimp only [putF, rd, Frame.get]
        refine r_op (o_mov (s_no ?_))
        dsimp only [putF, rd, Frame.get]
        refine r_op (o_bin rfl (by first | trivial | (unfold inI64; omega)) (s_no ?_))
        dsimp only [putF, rd, Frame.get]
        refine r_op ?_
        refine o_mov (s_dec (fun hg => ?_) (fun hg => by exfalso; omega))
        dsimp only [putF, rd, Frame.get]
        refine r_tt rfl (o_mov (s_no ?_))
        dsimp only [putF, rd, Frame.get]
        refine r_tt rfl (o_mov (s_no ?_))
        dsimp only [putF, rd, Frame.get]
        refine r_tt rfl (o_bin rfl (by first | trivial | (unfold inI64; omega)) (s_no ?_))
        dsimp only [putF, rd, Frame.get]
        refine r_tt rfl (o_bin rfl (by first | trivial | (unfold inI64; omega)) (s_no ?_))
        dsimp only [putF, rd, Frame.get]
        refine r_op (o_pickT rfl (s_no ?_))
        dsimp only [putF, rd, Frame.get]
        refine r_nil (c_keep ?_)
        dsimp only [List.map]
        dsimp only [putF, rd, Frame.get]
        with_reducible (refine on_n ?_)
        refine c_dec rfl (fun hc => ?_) (fun hc => by exfalso; omega)
        refine c_ops ?_
        refine r_op (o_mov (s_no ?_))
        dsimp only [putF, rd, Frame.get]
        refine r_op (o_mov (s_no ?_))
        dsimp only [putF, rd, Frame.get]
        refine r_op (o_mov (s_no ?_))
        dsimp only [putF, rd, Frame.get]
        refine r_op (o_mov (s_no ?_))
        dsimp only [putF, rd, Frame.get]
        refine r_op (o_sliceS rfl ⟨_, rfl⟩ ⟨_, rfl⟩ (by omega) (by omega) (s_no ?_))
        dsimp only [putF, rd, Frame.get]
        refine r_op (o_mov (s_no ?_))
        dsimp only [putF, rd, Frame.get]
        refine r_op (o_callv rfl ?_)
        dsimp only [List.map, putF, rd, Frame.get]
        rw [hsl]; refine HC.use (hdo i _ c he hC) hS ?_; rintro r m' S ⟨c', X', hC', rfl⟩ hS
        refine s_no ?_
        refine r_nil (c_keep ?_)
        dsimp only [List.map]
        dsimp only [putF, rd, Frame.get]
        with_reducible (refine ob_n ?_; refine on_n ?_)
        exact rest1 (i + 1) c' (X' + X) _ (by rw [hnext] at hcut; conv => lhs; rw [hcut]
                                              rw [show (fromW u 0).take (i + 1) = (fromW u 0).take i ++ [((u.drop k).take (runL u k), k)] from by rw [List.take_add_one, he]; rfl]; simp) (by rw [hnext] at hlen; simp at hlen; omega) hC' (hS.eq (by ac_rfl))
      · rw [if_neg z, List.nil_append] at hnext
        rw [hnext] at hcut hlen
        by_cases z0 : 0 < runL u k
        · refine c_ops ?_
          refine r_op (o_mov (s_no ?_))
          dsimp only [putF, rd, Frame.get]
          refine r_op (o_mov (s_no ?_))
          dsimp only [putF, rd, Frame.get]
          refine r_op (o_bin rfl (by first | trivial | (unfold inI64; omega)) (s_no ?_))
          dsimp only [putF, rd, Frame.get]
          refine r_op ?_
          refine o_mov (s_dec (fun hg => ?_) (fun hg => by exfalso; omega))
          dsimp only [putF, rd, Frame.get]
          refine r_tt rfl (o_mov (s_no ?_))
          dsimp only [putF, rd, Frame.get]
          refine r_tt rfl (o_mov (s_no ?_))
          dsimp only [putF, rd, Frame.get]
          refine r_tt rfl (o_bin rfl (by first | trivial | (unfold inI64; omega)) (s_no ?_))
          dsimp only [putF, rd, Frame.get]
          refine r_tt rfl (o_bin rfl (by first | trivial | (unfold inI64; omega)) (s_no ?_))
          dsimp only [putF, rd, Frame.get]
          refine r_op (o_pickT rfl (s_no ?_))
          dsimp only [putF, rd, Frame.get]
          refine r_nil (c_keep ?_)
          dsimp only [List.map]
          dsimp only [putF, rd, Frame.get]
          with_reducible (refine on_n ?_)
          refine c_dec rfl (fun hc => by exfalso; omega) (fun hc => ?_)
          with_reducible (refine c_skip ?_; refine ob_n ?_; refine on_n ?_)
          exact rest1 i c X _ hcut hlen hC hS
        · refine c_ops ?_
          refine r_op (o_mov (s_no ?_))
          dsimp only [putF, rd, Frame.get]
          refine r_op (o_mov (s_no ?_))
          dsimp only [putF, rd, Frame.get]
          refine r_op (o_bin rfl (by first | trivial | (unfold inI64; omega)) (s_no ?_))
          dsimp only [putF, rd, Frame.get]
          refine r_op ?_
          refine o_mov (s_dec (fun hg => by exfalso; omega) (fun hg => ?_))
          dsimp only [putF, rd, Frame.get]
          ((with_reducible refine r_st ?_ ?_); (· rfl))
          dsimp only [putF, rd, Frame.get]
          ((with_reducible refine r_st ?_ ?_); (· rfl))
          dsimp only [putF, rd, Frame.get]
          ((with_reducible refine r_st ?_ ?_); (· rfl))
          dsimp only [putF, rd, Frame.get]
          ((with_reducible refine r_st ?_ ?_); (· rfl))
          dsimp only [putF, rd, Frame.get]
          refine r_op (o_pickF rfl (s_no ?_))
          dsimp only [putF, rd, Frame.get]
          refine r_nil (c_keep ?_)
          dsimp only [List.map]
          dsimp only [putF, rd, Frame.get]
          with_reducible (refine on_n ?_)
          refine c_bool rfl (fun hb => by cases hb) (fun _ => ?_)
          with_reducible (refine c_skip ?_; refine ob_n ?_; refine on_n ?_)
          exact rest1 i c X _ hcut hlen hC hS
  · obtain rfl : j = runL u k := by omega
    with_reducible (refine c_seq ?_; refine c_seq ?_)
    refine c_ops ?_
    refine r_op (o_mov (s_no ?_))
    dsimp only [putF, rd, Frame.get]
    refine r_op (o_mov (s_no ?_))
    dsimp only [putF, rd, Frame.get]
    refine r_op (o_bin rfl (by first | trivial | (unfold inI64; omega)) (s_no ?_))
    dsimp only [putF, rd, Frame.get]
    refine r_op ?_
    refine o_mov (s_dec (fun hg => by exfalso; omega) (fun hg => ?_))
    dsimp only [putF, rd, Frame.get]
    ((with_reducible refine r_st ?_ ?_); (· rfl))
    dsimp only [putF, rd, Frame.get]
    ((with_reducible refine r_st ?_ ?_); (· rfl))
    dsimp only [putF, rd, Frame.get]
    ((with_reducible refine r_st ?_ ?_); (· rfl))
    dsimp only [putF, rd, Frame.get]
    ((with_reducible refine r_st ?_ ?_); (· rfl))
    dsimp only [putF, rd, Frame.get]
    refine r_op (o_pickF rfl (s_no ?_))
    dsimp only [putF, rd, Frame.get]
    refine r_nil (c_keep ?_)
    dsimp only [List.map]
    dsimp only [putF, rd, Frame.get]
    with_reducible (refine on_n ?_)
    refine c_bool rfl (fun hb => by cases hb) (fun _ => ?_)
    with_reducible (refine c_exit ?_; refine on_e ?_; refine on_e ?_; refine ob_e ?_; refine on_n ?_; refine c_seq ?_)
    by_cases z : 0 < runL u k ∧ runL u k ≤ 12
    · rw [if_pos z] at hnext
      have he : (fromW u 0)[i]? = some ((u.drop k).take (runL u k), k) := by
        rw [hcut, List.getElem?_append_right (by rw [List.length_take]; omega), hnext]
        have : i - ((fromW u 0).take i).length = 0 := by rw [List.length_take]; omega
        rw [this]; rfl
      have hsl : (s.take (lo + k + runL u k)).drop (lo + k) = (u.drop k).take (runL u k) := each_sl hu (by omega)
      refine c_ops ?_
      refine r_op (o_mov (s_no ?_))
      dsimp only [putF, rd, Frame.get]
      refine r_op (o_mov (s_no ?_))
      dsimp only [putF, rd, Frame.get]
      refine r_op (o_bin rfl (by first | trivial | (unfold inI64; omega)) (s_no ?_))
      dsimp only [putF, rd, Frame.get]
      refine r_op ?_
      refine o_mov (s_dec (fun hg => ?_) (fun hg => by exfalso; omega))
      dsimp only [putF, rd, Frame.get]
      refine r_tt rfl (o_mov (s_no ?_))
      dsimp only [putF, rd, Frame.get]
      refine r_tt rfl (o_mov (s_no ?_))
      dsimp only [putF, rd, Frame.get]
      refine r_tt rfl (o_bin rfl (by first | trivial | (unfold inI64; omega)) (s_no ?_))
      dsimp only [putF, rd, Frame.get]
      refine r_tt rfl (o_bin rfl (by first | trivial | (unfold inI64; omega)) (s_no ?_))
      dsimp only [putF, rd, Frame.get]
      refine r_op (o_pickT rfl (s_no ?_))
      dsimp only [putF, rd, Frame.get]
      refine r_nil (c_keep ?_)
      dsimp only [List.map]
      dsimp only [putF, rd, Frame.get]
      with_reducible (refine on_n ?_)
      refine c_dec rfl (fun hc => ?_) (fun hc => by exfalso; omega)
      refine c_ops ?_
      refine r_op (o_mov (s_no ?_))
      dsimp only [putF, rd, Frame.get]
      refine r_op (o_mov (s_no ?_))
      dsimp only [putF, rd, Frame.get]
      refine r_op (o_mov (s_no ?_))
      dsimp only [putF, rd, Frame.get]
      refine r_op (o_mov (s_no ?_))
      dsimp only [putF, rd, Frame.get]
      refine r_op (o_sliceS rfl ⟨_, rfl⟩ ⟨_, rfl⟩ (by omega) (by omega) (s_no ?_))
      dsimp only [putF, rd, Frame.get]
      refine r_op (o_mov (s_no ?_))
      dsimp only [putF, rd, Frame.get]
      refine r_op (o_callv rfl ?_)
      dsimp only [List.map, putF, rd, Frame.get]
      rw [hsl]; refine HC.use (hdo i _ c he hC) hS ?_; rintro r m' S ⟨c', X', hC', rfl⟩ hS
      refine s_no ?_
      refine r_nil (c_keep ?_)
      dsimp only [List.map]
      dsimp only [putF, rd, Frame.get]
      with_reducible (refine ob_n ?_; refine on_n ?_)
      exact rest1 (i + 1) c' (X' + X) _ (by rw [hnext] at hcut; conv => lhs; rw [hcut]
                                            rw [show (fromW u 0).take (i + 1) = (fromW u 0).take i ++ [((u.drop k).take (runL u k), k)] from by rw [List.take_add_one, he]; rfl]; simp) (by rw [hnext] at hlen; simp at hlen; omega) hC' (hS.eq (by ac_rfl))
    · rw [if_neg z, List.nil_append] at hnext
      rw [hnext] at hcut hlen
      by_cases z0 : 0 < runL u k
      · refine c_ops ?_
        refine r_op (o_mov (s_no ?_))
        dsimp only [putF, rd, Frame.get]
        refine r_op (o_mov (s_no ?_))
        dsimp only [putF, rd, Frame.get]
        refine r_op (o_bin rfl (by first | trivial | (unfold inI64; omega)) (s_no ?_))
        dsimp only [putF, rd, Frame.get]
        refine r_op ?_
        refine o_mov (s_dec (fun hg => ?_) (fun hg => by exfalso; omega))
        dsimp only [putF, rd, Frame.get]
        refine r_tt rfl (o_mov (s_no ?_))
        dsimp only [putF, rd, Frame.get]
        refine r_tt rfl (o_mov (s_no ?_))
        dsimp only [putF, rd, Frame.get]
        refine r_tt rfl (o_bin rfl (by first | trivial | (unfold inI64; omega)) (s_no ?_))
        dsimp only [putF, rd, Frame.get]
        refine r_tt rfl (o_bin rfl (by first | trivial | (unfold inI64; omega)) (s_no ?_))
        dsimp only [putF, rd, Frame.get]
        refine r_op (o_pickT rfl (s_no ?_))
        dsimp only [putF, rd, Frame.get]
        refine r_nil (c_keep ?_)
        dsimp only [List.map]
        dsimp only [putF, rd, Frame.get]
        with_reducible (refine on_n ?_)
        refine c_dec rfl (fun hc => by exfalso; omega) (fun hc => ?_)
        with_reducible (refine c_skip ?_; refine ob_n ?_; refine on_n ?_)
        exact rest1 i c X _ hcut hlen hC hS
      · refine c_ops ?_
        refine r_op (o_mov (s_no ?_))
        dsimp only [putF, rd, Frame.get]
        refine r_op (o_mov (s_no ?_))
        dsimp only [putF, rd, Frame.get]
        refine r_op (o_bin rfl (by first | trivial | (unfold inI64; omega)) (s_no ?_))
        dsimp only [putF, rd, Frame.get]
        refine r_op ?_
        refine o_mov (s_dec (fun hg => by exfalso; omega) (fun hg => ?_))
        dsimp only [putF, rd, Frame.get]
        ((with_reducible refine r_st ?_ ?_); (· rfl))
        dsimp only [putF, rd, Frame.get]
        ((with_reducible refine r_st ?_ ?_); (· rfl))
        dsimp only [putF, rd, Frame.get]
        ((with_reducible refine r_st ?_ ?_); (· rfl))
        dsimp only [putF, rd, Frame.get]
        ((with_reducible refine r_st ?_ ?_); (· rfl))
        dsimp only [putF, rd, Frame.get]
        refine r_op (o_pickF rfl (s_no ?_))
        dsimp only [putF, rd, Frame.get]
        refine r_nil (c_keep ?_)
        dsimp only [List.map]
        dsimp only [putF, rd, Frame.get]
        with_reducible (refine on_n ?_)
        refine c_bool rfl (fun hb => by cases hb) (fun _ => ?_)
        with_reducible (refine c_skip ?_; refine ob_n ?_; refine on_n ?_)
        exact rest1 i c X _ hcut hlen hC hS
/-- A table of words in memory. -/
inductive Tab : List (Bytes × List Int) → List (AVal × AVal) → HM → Prop
  | nil : Tab [] [] HM.nil
  | cons {w : Bytes} {a : List Int} {T : List (Bytes × List Int)} {es : List (AVal × AVal)} {m : HM} (p v : Nat) (h : Tab T es m) : Tab ((w, a) :: T) ((.str w, .sl p v 0 a.length) :: es) (pt p (.row v 1 (a.map (.int .i64))) + m)
theorem Tab.keys {T : List (Bytes × List Int)} {es : List (AVal × AVal)} {m : HM} (h : Tab T es m) : Keys .str es := by
  induction h with
  | nil => exact Keys.nil
  | cons p v _ ih =>
    intro e he
    rcases List.mem_cons.1 he with rfl | he
    · rfl
    · exact ih e he
theorem Tab.put {T : List (Bytes × List Int)} {es : List (AVal × AVal)} {m : HM} (h : Tab T es m) (w : Bytes) (n : Nat) : (keyAt (.str w) es = none ∧ tabGet T w = [] ∧ ∀ p v, Tab (tabAdd T (w, n)) (es ++ [(.str w, .sl p v 0 1)]) (m + pt p (.row v 1 [.int .i64 (n : Int)]))) ∨
    ∃ j p v R, keyAt (.str w) es = some (j, .sl p v 0 (tabGet T w).length) ∧ m = pt p (.row v 1 ((tabGet T w).map (.int .i64))) + R ∧ ∀ v', Tab (tabAdd T (w, n)) (es.set j (.str w, .sl p v' 0 ((tabGet T w).length + 1))) (pt p (.row v' 1 ((tabGet T w).map (.int .i64) ++ [.int .i64 (n : Int)])) + R) := by
  induction h with
  | nil => exact .inl ⟨rfl, rfl, fun p v => by rw [HM.nil_add]; exact (HM.add_nil (pt p (.row v 1 [.int .i64 (n : Int)]))) ▸ Tab.cons (w := w) (a := [(n : Int)]) p v .nil⟩
  | @cons u a T es m p v h ih =>
    by_cases e : u = w
    · subst e
      refine .inr ⟨0, p, v, m, ?_, ?_, fun v' => ?_⟩
      · simp [keyAt, keySame, tabGet]
      · simp [tabGet]
      · have := Tab.cons (w := u) (a := a ++ [(n : Int)]) p v' h
        simpa [tabGet, tabAdd] using this
    · have k1 : keySame (.str w) (.str u) = false := by simp only [keySame, beq_eq_false_iff_ne]; exact fun q => e q.symm
      have k2 : tabGet ((u, a) :: T) w = tabGet T w := by simp only [tabGet]; rw [if_neg e]
      have k3 : tabAdd ((u, a) :: T) (w, n) = (u, a) :: tabAdd T (w, n) := by simp only [tabAdd]; rw [if_neg e]
      rw [k2, k3]
      rcases ih with ⟨g1, g2, g3⟩ | ⟨j, p', v', R, g1, g2, g3⟩
      · refine .inl ⟨?_, g2, fun p' v' => ?_⟩
        · unfold keyAt; rw [k1, g1]
        · have := Tab.cons (w := u) (a := a) p v (g3 p' v')
          rw [show pt p (.row v 1 (a.map (.int .i64))) + m + pt p' (.row v' 1 [.int .i64 (n : Int)]) = pt p (.row v 1 (a.map (.int .i64))) + (m + pt p' (.row v' 1 [.int .i64 (n : Int)])) by ac_rfl]; exact this
      · refine .inr ⟨j + 1, p', v', pt p (.row v 1 (a.map (.int .i64))) + R, ?_, ?_, fun v2 => ?_⟩
        · unfold keyAt; rw [k1, g1]
        · rw [g2]; ac_rfl
        · have := Tab.cons (w := u) (a := a) p v (g3 v2)
          rw [show pt p' (.row v2 1 ((tabGet T w).map (.int .i64) ++ [.int .i64 (n : Int)])) + (pt p (.row v 1 (a.map (.int .i64))) + R) = pt p (.row v 1 (a.map (.int .i64))) + (pt p' (.row v2 1 ((tabGet T w).map (.int .i64) ++ [.int .i64 (n : Int)])) + R) by ac_rfl]
          exact this
abbrev TabM (l3 v3 lm vm : Nat) (es : List (AVal × AVal)) (m : HM) : HM := pt l3 (.row v3 0 [.map lm vm]) + (pt lm (.mapo vm es) + m)

theorem add_walk {l3 v3 lm vm : Nat} {T : List (Bytes × List Int)} {es : List (AVal × AVal)} {m : HM} (ht : Tab T es m) (w : Bytes) (n : Nat) (hl : (tabGet T w).length ≤ 1000000) :
    HC Try.prog f_words_Of_1 [.str w, .int .i64 (n : Int), .ptr l3 v3 0] (TabM l3 v3 lm vm es m) fun r m' => ∃ es' mm X, Tab (tabAdd T (w, n)) es' mm ∧ m' = TabM l3 v3 lm vm es' mm + X := by
  intro S mf hS
  have hk := ht.keys
  refine words_Of_1_ok.out rfl ?_ (by simp [words_Of_1_fi])
  unfold vcFun words_Of_1_fi
  dsimp only
  unfold words_Of_1_c
  dsimp only [argF]
  rcases ht.put w n with ⟨g1, g2, g3⟩ | ⟨j, p, v, R, g1, rfl, g3⟩
  · skip
    refine c_opsD0 hS fun S hS => ?_
    refine d_zero ?_
    refine r_op (o_load hS rfl rfl rfl rfl (s_no ?_))
    dsimp only [putF, rd, Frame.get]
    refine r_op (o_mov (s_no ?_))
    dsimp only [putF, rd, Frame.get]
    refine r_op (o_load hS rfl rfl rfl rfl (s_no ?_))
    dsimp only [putF, rd, Frame.get]
    refine r_op (o_mov (s_no ?_))
    dsimp only [putF, rd, Frame.get]
    refine r_op ?_
    refine o_mlook hS rfl rfl rfl hk ?_; dsimp only [putF, rd, Frame.get]; rw [lookM_none g1]; dsimp only [lookV]
    refine s_no ?_
    refine r_op (o_mov (s_no ?_))
    dsimp only [putF, rd, Frame.get]
    refine r_op (o_bsliceR rfl (s_no ?_))
    dsimp only [putF, rd, Frame.get, setCells, over]
    refine r_op ?_
    refine o_appendN hS rfl (SrcOf.one rfl) (by omega) fun v12 l12 S hS => ?_
    refine s_no ?_
    dsimp only [putF, rd, Frame.get]
    refine r_op (o_again hS rfl rfl rfl rfl rfl (s_no ?_))
    dsimp only [putF, rd, Frame.get]
    refine r_op (o_mupd hS rfl rfl rfl (by assumption) fun S hS => s_no ?_)
    dsimp only [putF, rd, Frame.get]
    dsimp only [putF, rd, Frame.get, setCells, over] at hS
    refine r_nil (c_keep ?_)
    dsimp only [List.map]
    try dsimp only
    unfold words_Of_1_r
    refine w_nil ?_
    dsimp only [retV, Frame.get]
    rw [keyPut_none g1] at hS
    refine ⟨_, ⟨_, _, HM.nil, g3 l12 v12, rfl⟩, hS.eq ?_⟩
    rw [HM.add_nil]
    show _ = pt l3 (.row v3 0 [.map lm vm]) + (pt lm (.mapo vm (es ++ [(.str w, .sl l12 v12 0 1)])) + (m + pt l12 (.row v12 1 [.int .i64 (n : Int)]))) + mf
    ac_rfl
  · skip
    refine c_opsD0 hS fun S hS => ?_
    refine d_zero ?_
    refine r_op (o_load hS rfl rfl rfl rfl (s_no ?_))
    dsimp only [putF, rd, Frame.get]
    refine r_op (o_mov (s_no ?_))
    dsimp only [putF, rd, Frame.get]
    refine r_op (o_load hS rfl rfl rfl rfl (s_no ?_))
    dsimp only [putF, rd, Frame.get]
    refine r_op (o_mov (s_no ?_))
    dsimp only [putF, rd, Frame.get]
    refine r_op ?_
    refine o_mlook hS rfl rfl rfl hk ?_; dsimp only [putF, rd, Frame.get]; rw [lookM_some g1]; dsimp only [lookV]
    refine s_no ?_
    refine r_op (o_mov (s_no ?_))
    dsimp only [putF, rd, Frame.get]
    refine r_op (o_bsliceR rfl (s_no ?_))
    dsimp only [putF, rd, Frame.get, setCells, over]
    refine r_op ?_
    refine o_appendX hS rfl (SrcOf.one rfl) rfl (by rw [List.length_map]; omega) (by omega) fun v12 S hS => ?_
    refine s_no ?_
    dsimp only [putF, rd, Frame.get]
    refine r_op (o_again hS rfl rfl rfl rfl rfl (s_no ?_))
    dsimp only [putF, rd, Frame.get]
    refine r_op (o_mupd hS rfl rfl rfl (by assumption) fun S hS => s_no ?_)
    dsimp only [putF, rd, Frame.get]
    dsimp only [putF, rd, Frame.get, setCells, over] at hS
    refine r_nil (c_keep ?_)
    dsimp only [List.map]
    try dsimp only
    unfold words_Of_1_r
    refine w_nil ?_
    dsimp only [retV, Frame.get]
    rw [keyPut_some g1] at hS
    refine ⟨_, ⟨_, _, HM.nil, g3 v12, rfl⟩, hS.eq ?_⟩
    rw [HM.add_nil]
/-- What a look into a table gives. -/
theorem Tab.look {s w : Bytes} {es : List (AVal × AVal)} {m : HM} (h : Tab (tabOf s) es m) : ∃ y, lookM false .nils (.str w) es = y ∧ ((y = .nils ∧ findW s w = []) ∨ ∃ p v R, y = .sl p v 0 (findW s w).length ∧ m = pt p (.row v 1 ((findW s w).map (.int .i64))) + R) := by
  have e := tabGet_of s w
  rcases h.put w 0 with ⟨g1, g2, _⟩ | ⟨j, p, v, R, g1, g2, _⟩
  · exact ⟨_, lookM_none g1, .inl ⟨rfl, by rw [← e]; exact g2⟩⟩
  · rw [e] at g1 g2
    exact ⟨_, lookM_some g1, .inr ⟨p, v, R, rfl, g2⟩⟩

theorem Of_walk (hP : Con Try.prog f_words_part words_part_ct) (s : Bytes) (hs : s.length ≤ 600) : HC Try.prog f_words_Of [.str s] HM.nil fun r m' => ∃ lm vm es m X, r = .map lm vm ∧ Tab (tabOf s) es m ∧ m' = pt lm (.mapo vm es) + (m + X) := by
  intro S mf hS
  rw [HM.nil_add] at hS
  refine words_Of_ok.out rfl ?_ (by simp [words_Of_fi])
  unfold vcFun words_Of_fi
  dsimp only
  unfold words_Of_c
  dsimp only [argF]
  with_reducible (refine c_seq ?_)
  refine c_ops ?_
  refine r_op (o_mov (s_no ?_))
  dsimp only [putF, rd, Frame.get]
  refine r_nil (c_keep ?_)
  dsimp only [List.map]
  dsimp only [putF, rd, Frame.get]
  with_reducible (refine on_n ?_; refine c_seq ?_)
  refine c_ops ?_
  refine r_op (o_mkmap hS fun v4 l4 S hS => s_no ?_)
  dsimp only [putF, rd, Frame.get]
  refine r_op (o_alloc hS fun v3 l3 S hS => s_no ?_)
  dsimp only [putF, rd, Frame.get]
  refine r_op (o_store hS rfl rfl rfl rfl (by simp) fun S hS => s_no ?_)
  dsimp only [putF, rd, Frame.get]
  dsimp only [putF, rd, Frame.get, setCells, over] at hS
  refine r_nil (c_keep ?_)
  dsimp only [List.map]
  dsimp only [putF, rd, Frame.get]
  have hE := each_walk hP (s := s) (u := s) (lo := 0) (hi := s.length) (by simp) (by omega) (by omega) (by omega) f_words_Of_1 [.ptr l3 v3 0] (fun i c => ∃ es m X, Tab (((fromW s 0).take i).foldl tabAdd []) es m ∧ c = TabM l3 v3 l4 v4 es m + X) (fun i e c he hC => by
    obtain ⟨es, m, X, ht, rfl⟩ := hC
    have hl : (tabGet (((fromW s 0).take i).foldl tabAdd []) e.1).length ≤ 1000000 := by
      rw [tabGet_fold]
      simp only [tabGet, List.nil_append, List.length_map]
      have h1 := List.length_filter_le (fun x : Bytes × Nat => decide (x.1 = e.1)) ((fromW s 0).take i)
      have h2 : (fromW s 0).length ≤ s.length := by unfold fromW; refine Nat.le_trans (List.length_filterMap_le _ _) ?_; simp
      rw [List.length_take] at h1; omega
    intro S mf hS
    rw [Nat.zero_add]
    refine (add_walk (l3 := l3) (v3 := v3) (lm := l4) (vm := v4) ht e.1 e.2 hl S (X + mf) (hS.eq (by ac_rfl))).mono ?_
    rintro r S' ⟨m', ⟨es', mm, X', ht', rfl⟩, hS'⟩
    refine ⟨_, ⟨_, HM.nil, ⟨es', mm, X' + X, ?_, rfl⟩, rfl⟩, hS'.eq (by rw [HM.add_nil]; ac_rfl)⟩
    rw [List.take_add_one, he, Option.toList_some, List.foldl_append]
    exact ht') (TabM l3 v3 l4 v4 [] HM.nil) ⟨[], HM.nil, HM.nil, .nil, (HM.add_nil _).symm⟩
  have hS := hS.eq (m' := TabM l3 v3 l4 v4 [] HM.nil + mf) (by show _ = pt l3 (.row v3 0 [.map l4 v4]) + (pt l4 (.mapo v4 []) + HM.nil) + mf; rw [HM.add_nil]; ac_rfl)
  with_reducible (refine on_n ?_; refine c_seq ?_)
  refine c_ops ?_
  refine r_op (o_mov (s_no ?_))
  dsimp only [putF, rd, Frame.get]
  refine r_op (o_mov (s_no ?_))
  dsimp only [putF, rd, Frame.get]
  refine r_op (o_len rfl (s_no ?_))
  dsimp only [putF, rd, Frame.get]
  refine r_op (o_mkfunc (s_no ?_))
  dsimp only [putF, rd, Frame.get]
  refine r_op (o_call ?_)
  dsimp only [List.map, putF, rd, Frame.get]
  refine HC.use hE hS ?_; rintro r m' S ⟨c1, X1, ⟨es, m, X, ht, rfl⟩, rfl⟩ hS
  refine s_no ?_
  refine r_nil (c_keep ?_)
  dsimp only [List.map]
  dsimp only [putF, rd, Frame.get]
  rw [List.take_of_length_le (Nat.le_refl _)] at ht
  have hS := hS.eq (m' := pt l3 (.row v3 0 [.map l4 v4]) + (pt l4 (.mapo v4 es) + (m + (X + (X1 + mf))))) (by show pt l3 (.row v3 0 [.map l4 v4]) + (pt l4 (.mapo v4 es) + m) + X + X1 + mf = _; ac_rfl)
  with_reducible (refine on_n ?_; refine c_seq ?_)
  refine c_ops ?_
  refine r_op (o_load hS rfl rfl rfl rfl (s_no ?_))
  dsimp only [putF, rd, Frame.get]
  refine r_op (o_mov (s_no ?_))
  dsimp only [putF, rd, Frame.get]
  refine r_nil (c_keep ?_)
  dsimp only [List.map]
  dsimp only [putF, rd, Frame.get]
  with_reducible (refine on_n ?_; refine c_ret ?_)
  try dsimp only
  unfold words_Of_r
  refine w_tmp (w_nil ?_)
  dsimp only [retV, Frame.get]
  exact ⟨_, ⟨l4, v4, es, m, _, rfl, ht, rfl⟩, hS.eq (by show _ = pt l4 (.mapo v4 es) + (m + (X + (X1 + pt l3 (.row v3 0 [.map l4 v4])))) + mf; ac_rfl)⟩
end Go.Proofs.Ytmpmlnjiolbplaa.W
