/- The first part of what is left of two sides, walked. Conditions: none. -/
import Derived.Test.YtdbgppfoenoijaaH5
set_option linter.unusedVariables false
set_option linter.unusedSimpArgs false
set_option maxRecDepth 100000
namespace Go.Proofs.Ytdbgppfoenoijaa.H
open Go.Vc Go.Fu
theorem encHs_app (a b : List Hunk) : encHs (a ++ b) = encHs a ++ encHs b := by unfold encHs; rw [List.flatMap_append]

theorem close_step {k hi : Nat} {A B : List Hunk} (h : ¬ ((upTo hi A).1 = [] ∧ (upTo (upTo hi A).2.2 B).1 = [])) : closeF (k + 1) hi A B = ((upTo hi A).1 ++ (closeF k (upTo (upTo hi A).2.2 B).2.2 (upTo hi A).2.1 (upTo (upTo hi A).2.2 B).2.1).1, (upTo (upTo hi A).2.2 B).1 ++ (closeF k (upTo (upTo hi A).2.2 B).2.2 (upTo hi A).2.1 (upTo (upTo hi A).2.2 B).2.1).2.1,
      (closeF k (upTo (upTo hi A).2.2 B).2.2 (upTo hi A).2.1 (upTo (upTo hi A).2.2 B).2.1).2.2) := by
  rw [closeF, if_neg h]
theorem close_end {k hi : Nat} {A B : List Hunk} (h : (upTo hi A).1 = [] ∧ (upTo (upTo hi A).2.2 B).1 = []) : closeF k hi A B = ([], [], A, B, hi) := by
  cases k with
  | zero => rfl
  | succ k => rw [closeF, if_pos h]
/-- How far places reach, in sides. -/
theorem first_le {A B : List Hunk} (hA : ∀ h ∈ A, h.1 ≤ 80) (hB : ∀ h ∈ B, h.1 ≤ 80) : firstLo A B ≤ 1099511627776 ∧ min (1099511627776 : Nat) (firstLo A []) = firstLo A [] ∧ (∀ g r, A = g :: r → firstLo A [] = min 1099511627776 g.1) ∧ (∀ g r, B = g :: r → firstLo A B = min (firstLo A []) g.1) ∧ (A = [] → firstLo A [] = 1099511627776) ∧ (B = [] → firstLo A B = firstLo A []) := by
  refine ⟨?_, ?_, ?_, ?_, ?_, ?_⟩
  · rcases A with _ | ⟨a, A⟩ <;> rcases B with _ | ⟨b, B⟩
    · simp [firstLo]
    · have := hB b (List.mem_cons_self ..); simp only [firstLo]; omega
    · have := hA a (List.mem_cons_self ..); simp only [firstLo]; omega
    · have := hA a (List.mem_cons_self ..); simp only [firstLo]; omega
  · rcases A with _ | ⟨a, A⟩
    · simp [firstLo]
    · have := hA a (List.mem_cons_self ..); simp only [firstLo]; omega
  · rintro g r rfl
    have := hA g (List.mem_cons_self ..); simp only [firstLo]; omega
  · rintro g r rfl
    rcases A with _ | ⟨a, A⟩
    · have := hB g (List.mem_cons_self ..); simp only [firstLo]; omega
    · simp only [firstLo]
  · rintro rfl; rfl
  · rintro rfl; rfl

theorem part_walk (A B : List Hunk) {lp vp lq vq : Nat} (hA : ∀ h ∈ A, h.1 ≤ 80) (hB : ∀ h ∈ B, h.1 ≤ 80) (hAl : A.length ≤ 1000) (hBl : B.length ≤ 1000) :
    HC Try.prog f_merge_part [.ptr lp vp 0, .ptr lq vq 0] (SdR lp vp A + SdR lq vq B) fun r m' => ∃ (c : Cl) (px vx py vy : Nat) (X : HM), c = closeF (A.length + B.length + 1) (firstLo A B) A B ∧ c.1 ++ c.2.2.1 = A ∧ c.2.1 ++ c.2.2.2.1 = B ∧
      r = .tup [.int .i64 (firstLo A B : Int), .int .i64 (c.2.2.2.2 : Int), .sl px vx 0 c.1.length, .sl py vy 0 c.2.1.length] ∧ m' = SdR lp vp c.2.2.1 + SdR lq vq c.2.2.2.1 + (pt px (.row vx 3 (encHs c.1)) + (pt py (.row vy 3 (encHs c.2.1)) + X)) := by
  intro S mf hS
  obtain ⟨f1, f2, f3, f4, f5, f6⟩ := first_le hA hB
  refine merge_part_ok.out rfl ?_ (by simp [merge_part_fi])
  unfold vcFun merge_part_fi
  dsimp only
  unfold merge_part_c
  dsimp only [argF]
  with_reducible (refine c_seq ?_)
  refine c_ops ?_
  refine r_op (o_mov (s_no ?_))
  dsimp only [putF, rd, Frame.get]
  refine r_op (o_mov (s_no ?_))
  dsimp only [putF, rd, Frame.get]
  refine r_op (o_newnil hS fun v6 l6 S hS => s_no ?_)
  dsimp only [putF, rd, Frame.get]
  refine r_op (o_newnil hS fun v7 l7 S hS => s_no ?_)
  dsimp only [putF, rd, Frame.get]
  refine r_nil (c_keep ?_)
  dsimp only [List.map]
  dsimp only [putF, rd, Frame.get]
  with_reducible (refine on_n ?_; refine c_seq ?_)
  refine c_ops ?_
  refine r_op (o_mov (s_no ?_))
  dsimp only [putF, rd, Frame.get]
  refine r_nil (c_keep ?_)
  dsimp only [List.map]
  dsimp only [putF, rd, Frame.get]
  with_reducible (refine on_n ?_; refine c_seq ?_; refine c_seq ?_)
  refine c_ops ?_
  refine r_op (o_mov (s_no ?_))
  dsimp only [putF, rd, Frame.get]
  refine r_op (o_mov (s_no ?_))
  dsimp only [putF, rd, Frame.get]
  refine r_op (o_build rfl (s_no ?_))
  dsimp only [putF, rd, Frame.get, setCells, over]
  refine r_op (o_mov (s_no ?_))
  dsimp only [putF, rd, Frame.get]
  refine r_nil (c_keep ?_)
  dsimp only [List.map]
  dsimp only [putF, rd, Frame.get]
  with_reducible (refine on_n ?_; refine c_block ?_)
  have hS := hS.eq (m' := SdR lp vp A + SdR lq vq B + (pt l6 (.row v6 3 []) + (pt l7 (.row v7 3 []) + mf))) (by ac_rfl)
  refine c_loop (fun k xs S => ∃ i lo : Nat, xs = [.int .i64 (lo : Int), .int .i64 (i : Int)] ∧ i ≤ 2 ∧ k = 2 - i ∧ lo = (if i = 0 then 1099511627776 else if i = 1 then firstLo A [] else firstLo A B) ∧ Has S (SdR lp vp A + SdR lq vq B + (pt l6 (.row v6 3 []) + (pt l7 (.row v7 3 []) + mf)))) 2 ⟨0, 1099511627776, rfl, by omega, rfl, rfl, hS⟩ ?_
  clear hS
  rintro k xs S hl' ⟨i, lo, rfl, hi, rfl, hlo, hS⟩
  dsimp only [zipF, List.map, Frame.get]
  with_reducible (refine c_seq ?_)
  refine c_ops ?_
  refine r_op (o_bin rfl (by first | trivial | (unfold inI64; omega)) (s_no ?_))
  dsimp only [putF, rd, Frame.get]
  refine r_nil (c_keep ?_)
  dsimp only [List.map]
  dsimp only [putF, rd, Frame.get]
  with_reducible (refine on_n ?_; refine c_seq ?_)
  refine c_dec rfl (fun hlt => ?_) (fun hlt => ?_)
  · with_reducible (refine c_skip ?_; refine on_n ?_)
    refine c_join fun K1 hK1 => ?_
    have rest1 : ∀ (lo' : Nat) (S : Store), lo' = (if i + 1 = 1 then firstLo A [] else firstLo A B) → Has S (SdR lp vp A + SdR lq vq B + (pt l6 (.row v6 3 []) + (pt l7 (.row v7 3 []) + mf))) → K1 [.int .i64 (lo' : Int)] S := by
      intro lo' S e hS
      refine hK1 _ _ rfl ?_
      dsimp only [zipF, List.map, Frame.get]
      refine c_ops ?_
      refine r_op (o_bin rfl (by first | trivial | (unfold inI64; omega)) (s_no ?_))
      dsimp only [putF, rd, Frame.get]
      refine r_op (o_mov (s_no ?_))
      dsimp only [putF, rd, Frame.get]
      refine r_nil (c_keep ?_)
      dsimp only [List.map]
      dsimp only [putF, rd, Frame.get]
      with_reducible (refine on_n ?_)
      exact ⟨2 - (i + 1), by omega, i + 1, lo', rfl, by omega, rfl, by rw [if_neg (by omega)]; exact e, hS⟩
    clear hK1
    rcases (by omega : i = 0 ∨ i = 1) with rfl | rfl
    · rw [if_pos rfl] at hlo
      subst hlo
      with_reducible (refine c_block ?_; refine c_seq ?_)
      refine c_ops ?_
      refine r_op ?_
      refine o_indexA (j := 0) rfl rfl (by omega) rfl rfl ?_
      refine s_no ?_
      dsimp only [putF, rd, Frame.get]
      refine r_op (o_mov (s_no ?_))
      dsimp only [putF, rd, Frame.get]
      refine r_nil (c_keep ?_)
      dsimp only [List.map]
      dsimp only [putF, rd, Frame.get]
      with_reducible (refine on_n ?_; refine c_seq ?_)
      refine c_ops ?_
      refine r_op (o_mov (s_no ?_))
      dsimp only [putF, rd, Frame.get]
      refine r_op (o_nilchk rfl (s_no ?_))
      dsimp only [putF, rd, Frame.get]
      refine r_op (o_faddr rfl (s_no ?_))
      dsimp only [putF, rd, Frame.get]
      simp only [Nat.zero_mul, Nat.mul_zero, Nat.mul_one, Nat.add_zero, Nat.zero_add, Nat.sub_zero, Nat.reduceAdd, Nat.reduceMul]
      refine r_op (o_load hS rfl rfl rfl rfl (s_no ?_))
      dsimp only [putF, rd, Frame.get]
      refine r_op (o_len rfl (s_no ?_))
      dsimp only [putF, rd, Frame.get]
      refine r_op (o_bin rfl (by first | trivial | (unfold inI64; omega)) (s_no ?_))
      dsimp only [putF, rd, Frame.get]
      refine r_nil (c_keep ?_)
      dsimp only [List.map]
      dsimp only [putF, rd, Frame.get]
      with_reducible (refine on_n ?_)
      refine c_dec rfl (fun hc => ?_) (fun hc => ?_)
      · obtain ⟨g, r, e⟩ : ∃ g r, A = g :: r := by
          cases A with
          | nil => simp at hc
          | cons g r => exact ⟨g, r, rfl⟩
        have ht : takeN 3 ((encHs A).drop (0 * 3)) = some [.int .i64 g.1, .int .i64 g.2.1, .ros g.2.2.length (strs g.2.2)] := encHs_el (by rw [e]; rfl)
        refine c_ops ?_
        refine r_op (o_mov (s_no ?_))
        dsimp only [putF, rd, Frame.get]
        refine r_op (o_mov (s_no ?_))
        dsimp only [putF, rd, Frame.get]
        refine r_op (o_nilchk rfl (s_no ?_))
        dsimp only [putF, rd, Frame.get]
        refine r_op (o_faddr rfl (s_no ?_))
        dsimp only [putF, rd, Frame.get]
        simp only [Nat.zero_mul, Nat.mul_zero, Nat.mul_one, Nat.add_zero, Nat.zero_add, Nat.sub_zero, Nat.reduceAdd, Nat.reduceMul]
        refine r_op (o_load hS rfl rfl rfl rfl (s_no ?_))
        dsimp only [putF, rd, Frame.get]
        refine r_op ?_
        refine o_iaddrR (j := 0) rfl rfl (by omega) ht ?_
        refine s_no ?_
        dsimp only [putF, rd, Frame.get]
        refine r_op (o_faddrR rfl (s_no ?_))
        dsimp only [putF, rd, Frame.get]
        refine r_op (o_loadR rfl rfl rfl (s_no ?_))
        dsimp only [putF, rd, Frame.get]
        refine r_op ?_
        refine o_min rfl rfl ?_; rw [show min (((1099511627776 : Nat) : Int)) (g.1 : Int) = ((min 1099511627776 g.1 : Nat) : Int) by omega]
        refine s_no ?_
        dsimp only [putF, rd, Frame.get]
        refine r_op (o_mov (s_no ?_))
        dsimp only [putF, rd, Frame.get]
        refine r_nil (c_keep ?_)
        dsimp only [List.map]
        dsimp only [putF, rd, Frame.get]
        with_reducible (refine ob_n ?_; refine on_n ?_)
        exact rest1 _ _ (by rw [if_pos rfl, f3 g r e]) hS
      · with_reducible (refine c_skip ?_; refine ob_n ?_; refine on_n ?_)
        exact rest1 _ _ (by rw [if_pos rfl, f5 (List.length_eq_zero_iff.1 (by omega))]) hS
    · rw [if_neg (by decide), if_pos rfl] at hlo
      subst hlo
      with_reducible (refine c_block ?_; refine c_seq ?_)
      refine c_ops ?_
      refine r_op ?_
      refine o_indexA (j := 1) rfl rfl (by omega) rfl rfl ?_
      refine s_no ?_
      dsimp only [putF, rd, Frame.get]
      refine r_op (o_mov (s_no ?_))
      dsimp only [putF, rd, Frame.get]
      refine r_nil (c_keep ?_)
      dsimp only [List.map]
      dsimp only [putF, rd, Frame.get]
      with_reducible (refine on_n ?_; refine c_seq ?_)
      refine c_ops ?_
      refine r_op (o_mov (s_no ?_))
      dsimp only [putF, rd, Frame.get]
      refine r_op (o_nilchk rfl (s_no ?_))
      dsimp only [putF, rd, Frame.get]
      refine r_op (o_faddr rfl (s_no ?_))
      dsimp only [putF, rd, Frame.get]
      simp only [Nat.zero_mul, Nat.mul_zero, Nat.mul_one, Nat.add_zero, Nat.zero_add, Nat.sub_zero, Nat.reduceAdd, Nat.reduceMul]
      refine r_op (o_load hS rfl rfl rfl rfl (s_no ?_))
      dsimp only [putF, rd, Frame.get]
      refine r_op (o_len rfl (s_no ?_))
      dsimp only [putF, rd, Frame.get]
      refine r_op (o_bin rfl (by first | trivial | (unfold inI64; omega)) (s_no ?_))
      dsimp only [putF, rd, Frame.get]
      refine r_nil (c_keep ?_)
      dsimp only [List.map]
      dsimp only [putF, rd, Frame.get]
      with_reducible (refine on_n ?_)
      refine c_dec rfl (fun hc => ?_) (fun hc => ?_)
      · obtain ⟨g, r, e⟩ : ∃ g r, B = g :: r := by
          cases B with
          | nil => simp at hc
          | cons g r => exact ⟨g, r, rfl⟩
        have ht : takeN 3 ((encHs B).drop (0 * 3)) = some [.int .i64 g.1, .int .i64 g.2.1, .ros g.2.2.length (strs g.2.2)] := encHs_el (by rw [e]; rfl)
        refine c_ops ?_
        refine r_op (o_mov (s_no ?_))
        dsimp only [putF, rd, Frame.get]
        refine r_op (o_mov (s_no ?_))
        dsimp only [putF, rd, Frame.get]
        refine r_op (o_nilchk rfl (s_no ?_))
        dsimp only [putF, rd, Frame.get]
        refine r_op (o_faddr rfl (s_no ?_))
        dsimp only [putF, rd, Frame.get]
        simp only [Nat.zero_mul, Nat.mul_zero, Nat.mul_one, Nat.add_zero, Nat.zero_add, Nat.sub_zero, Nat.reduceAdd, Nat.reduceMul]
        refine r_op (o_load hS rfl rfl rfl rfl (s_no ?_))
        dsimp only [putF, rd, Frame.get]
        refine r_op ?_
        refine o_iaddrR (j := 0) rfl rfl (by omega) ht ?_
        refine s_no ?_
        dsimp only [putF, rd, Frame.get]
        refine r_op (o_faddrR rfl (s_no ?_))
        dsimp only [putF, rd, Frame.get]
        refine r_op (o_loadR rfl rfl rfl (s_no ?_))
        dsimp only [putF, rd, Frame.get]
        refine r_op ?_
        refine o_min rfl rfl ?_; rw [show min ((firstLo A [] : Int)) (g.1 : Int) = ((min (firstLo A []) g.1 : Nat) : Int) by omega]
        refine s_no ?_
        dsimp only [putF, rd, Frame.get]
        refine r_op (o_mov (s_no ?_))
        dsimp only [putF, rd, Frame.get]
        refine r_nil (c_keep ?_)
        dsimp only [List.map]
        dsimp only [putF, rd, Frame.get]
        with_reducible (refine ob_n ?_; refine on_n ?_)
        exact rest1 _ _ (by rw [if_neg (by decide), f4 g r e]) hS
      · with_reducible (refine c_skip ?_; refine ob_n ?_; refine on_n ?_)
        exact rest1 _ _ (by rw [if_neg (by decide), f6 (List.length_eq_zero_iff.1 (by omega))]) hS
  obtain rfl : i = 2 := by omega
  rw [if_neg (by decide), if_neg (by decide)] at hlo
  subst hlo
  clear hlt hl' hi
  generalize hLo : firstLo A B = Lo at *
  with_reducible (refine c_exit ?_; refine on_e ?_; refine on_e ?_; refine ob_e ?_; refine on_n ?_; refine c_seq ?_)
  refine c_ops ?_
  refine r_op (o_mov (s_no ?_))
  dsimp only [putF, rd, Frame.get]
  refine r_op (o_mov (s_no ?_))
  dsimp only [putF, rd, Frame.get]
  refine r_nil (c_keep ?_)
  dsimp only [List.map]
  dsimp only [putF, rd, Frame.get]
  with_reducible (refine on_n ?_; refine c_block ?_)
  refine c_loop (fun k xs S => ∃ (K hi vx vy : Nat) (x y A' B' : List Hunk) (X : HM), xs = [.int .i64 (Lo : Int), .int .i64 (hi : Int), .sl l6 vx 0 x.length, .sl l7 vy 0 y.length] ∧ k = A'.length + B'.length ∧ A'.length + B'.length < K ∧ x ++ A' = A ∧ y ++ B' = B ∧
    closeF (A.length + B.length + 1) Lo A B = (x ++ (closeF K hi A' B').1, y ++ (closeF K hi A' B').2.1, (closeF K hi A' B').2.2) ∧
    Has S (SdR lp vp A' + SdR lq vq B' + (pt l6 (.row vx 3 (encHs x)) + (pt l7 (.row vy 3 (encHs y)) + (X + mf))))) (A.length + B.length) ⟨A.length + B.length + 1, Lo, v6, v7, [], [], A, B, HM.nil, rfl, rfl, by omega, rfl, rfl, rfl, hS.eq (by show _ = SdR lp vp A + SdR lq vq B + (pt l6 (.row v6 3 []) + (pt l7 (.row v7 3 []) + (HM.nil + mf))); ac_rfl)⟩ ?_
  clear hS
  rintro k xs S hl' ⟨K, hi, vx, vy, x, y, A', B', X, rfl, rfl, hK, eA, eB, ec, hS⟩
  dsimp only [zipF, List.map, Frame.get]
  have nA : x.length + A'.length = A.length := by rw [← eA, List.length_append]
  have nB : y.length + B'.length = B.length := by rw [← eB, List.length_append]
  have sA := upTo_split A' hi
  have sB := upTo_split B' (upTo hi A').2.2
  have zA := congrArg List.length sA
  have zB := congrArg List.length sB
  rw [List.length_append] at zA zB
  with_reducible (refine c_block ?_; refine c_seq ?_)
  refine c_ops ?_
  refine r_op (o_mov (s_no ?_))
  dsimp only [putF, rd, Frame.get]
  refine r_op (o_mov (s_no ?_))
  dsimp only [putF, rd, Frame.get]
  refine r_op (o_call ?_)
  dsimp only [List.map, putF, rd, Frame.get]
  refine (upTo_walk A' hi (lp := lp) (vp := vp) (by omega)).use hS fun r m' S h hS => ?_; obtain ⟨rfl, rfl⟩ := h
  refine s_no ?_
  refine r_op (o_mov (s_no ?_))
  dsimp only [putF, rd, Frame.get]
  refine r_op (o_extract rfl rfl (s_no ?_))
  dsimp only [putF, rd, Frame.get]
  refine r_op (o_extract rfl rfl (s_no ?_))
  dsimp only [putF, rd, Frame.get]
  refine r_op (o_mov (s_no ?_))
  dsimp only [putF, rd, Frame.get]
  refine r_op (o_mov (s_no ?_))
  dsimp only [putF, rd, Frame.get]
  refine r_nil (c_keep ?_)
  dsimp only [List.map]
  dsimp only [putF, rd, Frame.get]
  with_reducible (refine on_n ?_; refine c_seq ?_)
  refine c_ops ?_
  refine r_op (o_mov (s_no ?_))
  dsimp only [putF, rd, Frame.get]
  refine r_op (o_mov (s_no ?_))
  dsimp only [putF, rd, Frame.get]
  refine r_op (o_call ?_)
  dsimp only [List.map, putF, rd, Frame.get]
  refine (upTo_walk B' (upTo hi A').2.2 (lp := lq) (vp := vq) (by omega)).use hS fun r m' S h hS => ?_; obtain ⟨rfl, rfl⟩ := h
  refine s_no ?_
  refine r_op (o_mov (s_no ?_))
  dsimp only [putF, rd, Frame.get]
  refine r_op (o_extract rfl rfl (s_no ?_))
  dsimp only [putF, rd, Frame.get]
  refine r_op (o_extract rfl rfl (s_no ?_))
  dsimp only [putF, rd, Frame.get]
  refine r_op (o_mov (s_no ?_))
  dsimp only [putF, rd, Frame.get]
  refine r_op (o_mov (s_no ?_))
  dsimp only [putF, rd, Frame.get]
  refine r_nil (c_keep ?_)
  dsimp only [List.map]
  dsimp only [putF, rd, Frame.get]
  with_reducible (refine on_n ?_; refine c_seq ?_)
  refine c_ops ?_
  refine r_op (o_mov (s_no ?_))
  dsimp only [putF, rd, Frame.get]
  refine r_op (o_mov (s_no ?_))
  dsimp only [putF, rd, Frame.get]
  refine r_op ?_
  refine o_appendX hS rfl (SrcOf.ros (encHs_len _)) rfl (encHs_len _) (by omega) fun vx' S hS => ?_
  refine s_no ?_
  dsimp only [putF, rd, Frame.get]
  refine r_op (o_mov (s_no ?_))
  dsimp only [putF, rd, Frame.get]
  refine r_op (o_mov (s_no ?_))
  dsimp only [putF, rd, Frame.get]
  refine r_op ?_
  refine o_appendX hS rfl (SrcOf.ros (encHs_len _)) rfl (encHs_len _) (by omega) fun vy' S hS => ?_
  refine s_no ?_
  dsimp only [putF, rd, Frame.get]
  refine r_op (o_mov (s_no ?_))
  dsimp only [putF, rd, Frame.get]
  refine r_op (o_mov (s_no ?_))
  dsimp only [putF, rd, Frame.get]
  refine r_nil (c_keep ?_)
  dsimp only [List.map]
  dsimp only [putF, rd, Frame.get]
  with_reducible (refine on_n ?_; refine c_seq ?_; refine c_seq ?_)
  refine c_ops ?_
  refine r_op (o_mov (s_no ?_))
  dsimp only [putF, rd, Frame.get]
  refine r_op (o_len rfl (s_no ?_))
  dsimp only [putF, rd, Frame.get]
  refine r_op (o_mov (s_no ?_))
  dsimp only [putF, rd, Frame.get]
  refine r_op (o_len rfl (s_no ?_))
  dsimp only [putF, rd, Frame.get]
  refine r_op (o_bin rfl (by first | trivial | (unfold inI64; omega)) (s_no ?_))
  dsimp only [putF, rd, Frame.get]
  refine r_op (o_bin rfl (by first | trivial | (unfold inI64; omega)) (s_no ?_))
  dsimp only [putF, rd, Frame.get]
  refine r_nil (c_keep ?_)
  dsimp only [List.map]
  dsimp only [putF, rd, Frame.get]
  with_reducible (refine on_n ?_)
  rw [← encHs_app, ← encHs_app] at hS
  refine c_dec rfl (fun hc => ?_) (fun hc => ?_)
  · have e1 : (upTo hi A').1 = [] := List.length_eq_zero_iff.1 (by omega)
    have e2 : (upTo (upTo hi A').2.2 B').1 = [] := List.length_eq_zero_iff.1 (by omega)
    obtain ⟨t1, t2, _⟩ := upTo_nil e1
    obtain ⟨t3, t4, _⟩ := upTo_nil e2
    rw [close_end ⟨e1, e2⟩] at ec
    simp only [List.append_nil] at ec
    rw [t3, t1, e1, e2, List.append_nil, List.append_nil] at hS
    rw [e1, e2]
    with_reducible (refine c_seq ?_)
    refine c_ops ?_
    refine r_op (o_mov (s_no ?_))
    dsimp only [putF, rd, Frame.get]
    refine r_op (o_mov (s_no ?_))
    dsimp only [putF, rd, Frame.get]
    refine r_op (o_mov (s_no ?_))
    dsimp only [putF, rd, Frame.get]
    refine r_op (o_mov (s_no ?_))
    dsimp only [putF, rd, Frame.get]
    refine r_op (o_mov (s_no ?_))
    dsimp only [putF, rd, Frame.get]
    refine r_op (o_mov (s_no ?_))
    dsimp only [putF, rd, Frame.get]
    refine r_op (o_mov (s_no ?_))
    dsimp only [putF, rd, Frame.get]
    refine r_op (o_mov (s_no ?_))
    dsimp only [putF, rd, Frame.get]
    refine r_nil (c_keep ?_)
    dsimp only [List.map]
    dsimp only [putF, rd, Frame.get]
    with_reducible (refine on_n ?_; refine c_ret ?_; refine on_r ?_; refine ob_r ?_; refine on_r ?_; refine ob_r ?_)
    dsimp only
    unfold merge_part_r
    refine w_tmp (w_tmp (w_tmp (w_tmp (w_nil ?_))))
    dsimp only [retV, Frame.get]
    refine ⟨_, ⟨(x, y, A', B', hi), l6, vx', l7, vy', X, ec.symm, eA, eB, rfl, rfl⟩, hS.eq (by ac_rfl)⟩
  · obtain ⟨K, rfl⟩ : ∃ K0, K = K0 + 1 := ⟨K - 1, by omega⟩
    have hne : ¬ ((upTo hi A').1 = [] ∧ (upTo (upTo hi A').2.2 B').1 = []) := fun ⟨q1, q2⟩ => hc (by rw [q1, q2]; rfl)
    rw [close_step hne] at ec
    have hpos : 0 < (upTo hi A').1.length + (upTo (upTo hi A').2.2 B').1.length := by omega
    with_reducible (refine c_skip ?_; refine on_n ?_)
    refine c_ops ?_
    refine r_op (o_mov (s_no ?_))
    dsimp only [putF, rd, Frame.get]
    refine r_op (o_mov (s_no ?_))
    dsimp only [putF, rd, Frame.get]
    refine r_nil (c_keep ?_)
    dsimp only [List.map]
    dsimp only [putF, rd, Frame.get]
    with_reducible (refine ob_n ?_; refine on_n ?_)
    refine ⟨_, ?_, K, (upTo (upTo hi A').2.2 B').2.2, vx', vy', x ++ (upTo hi A').1, y ++ (upTo (upTo hi A').2.2 B').1, (upTo hi A').2.1, (upTo (upTo hi A').2.2 B').2.1, X, ?_, rfl, by omega, by rw [List.append_assoc, sA, eA], by rw [List.append_assoc, sB, eB], ?_, hS⟩
    · omega
    · rw [List.length_append, List.length_append]; rfl
    · rw [ec]; simp only [List.append_assoc]
end Go.Proofs.Ytdbgppfoenoijaa.H
