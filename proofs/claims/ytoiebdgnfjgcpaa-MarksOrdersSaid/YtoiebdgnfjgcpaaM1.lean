/- The library's stable sort at integers, by a comparison that reads memory: walked. Conditions: none. -/
import Derived.Test.YtoiebdgnfjgcpaaGM
import Derived.Test.YtoiebdgnfjgcpaaVpSA
import Derived.Test.YtoiebdgnfjgcpaaVpK
import Derived.Test.YtoiebdgnfjgcpaaVh7
set_option linter.unusedVariables false
set_option linter.unusedSimpArgs false
set_option maxRecDepth 100000
namespace Go.Proofs.Ytoiebdgnfjgcpaa.M
open Go.Vc Go.Fu
abbrev I64 (l : List Int) : List AVal := l.map (AVal.int .i64)
theorem ints_at {d : List Int} {k : Nat} (h : k < d.length) : takeN 1 ((I64 d).drop k) = some [.int .i64 (gt d (k : Int))] := by
  rw [List.drop_eq_getElem_cons (by simpa using h), gt_nat_in h]
  simp [takeN]
theorem ints_set {d : List Int} {k : Nat} {x : Int} (h : k < d.length) : setCells (I64 d) k [.int .i64 x] = I64 (d.set k x) := by
  have e : ∀ (l : List AVal) (k : Nat) (y : AVal), k < l.length → setCells l k [y] = l.set k y := by
    intro l
    induction l with
    | nil => intro k y h; simp at h
    | cons a l ih =>
      intro k y h
      cases k with
      | zero => cases l <;> rfl
      | succ k => simp only [setCells, List.set_cons_succ]; rw [ih k y (by simpa using h)]
  rw [e _ _ _ (by simpa using h), ← List.map_set]
/-- A comparison that reads A and leaves it. -/
def Cmp (g : FuncId) (cap : List AVal) (A : HM) (cf : Int → Int → Int) (ok : Int → Prop) : Prop := ∀ x y, ok x → ok y → HC Try.prog g (.int .i64 x :: .int .i64 y :: cap) A fun r m' => r = .int .i64 (cf x y) ∧ ∃ X, m' = A + X

theorem swr_walk {p v n : Nat} {fv : AVal} (a b k : Nat) (ls : List Int) (h1 : a + k ≤ ls.length) (h2 : b + k ≤ ls.length) (hd : a + k ≤ b ∨ b + k ≤ a) (hl : ls.length = n) (hn : n ≤ 1000000) :
    HC Try.prog f_slices_swapRangeCmpFunc_int_ [.sl p v 0 n, .int .i64 (a : Int), .int .i64 (b : Int), .int .i64 (k : Int), fv] (pt p (.row v 1 (I64 ls))) fun r m' => r = .tup [] ∧ m' = pt p (.row v 1 (I64 (swr ls a b k))) := by
  intro S mf hS
  refine slices_swapRangeCmpFunc_int__ok.out rfl ?_ (by simp [slices_swapRangeCmpFunc_int__fi])
  unfold vcFun slices_swapRangeCmpFunc_int__fi
  dsimp only
  unfold slices_swapRangeCmpFunc_int__c
  dsimp only [argF]
  repeat (with_reducible first | refine c_seq ?_ | refine on_n ?_ | refine c_skip ?_ | refine c_block ?_ | refine on_r ?_ | refine c_ret ?_ | refine c_exit ?_ | refine on_e ?_ | refine ob_e ?_ | refine ob_n ?_ | refine ob_r ?_ | refine ob_x rfl ?_)
  refine c_ops ?_
  refine r_op (o_mov (s_no ?_))
  try dsimp only [putF, rd, Frame.get]
  refine r_nil (c_keep ?_)
  try dsimp only [List.map]
  try dsimp only [putF, rd, Frame.get]
  repeat (with_reducible first | refine c_seq ?_ | refine on_n ?_ | refine c_skip ?_ | refine c_block ?_ | refine on_r ?_ | refine c_ret ?_ | refine c_exit ?_ | refine on_e ?_ | refine ob_e ?_ | refine ob_n ?_ | refine ob_r ?_ | refine ob_x rfl ?_)
  refine c_loop (fun m xs S => ∃ i : Nat, xs = [.int .i64 (i : Int)] ∧ i ≤ k ∧ m = k - i ∧ Has S (pt p (.row v 1 (I64 (swr ls a b i))) + mf)) k ⟨0, rfl, Nat.zero_le _, rfl, by rw [show ((0 : Nat) : Int) = 0 from rfl, swr_zero]; exact hS⟩ ?_
  clear hS
  rintro m xs S hl' ⟨i, rfl, hi, rfl, hS⟩
  dsimp only [zipF, List.map, Frame.get]
  have ll := swr_len ls a b i
  repeat (with_reducible first | refine c_seq ?_ | refine on_n ?_ | refine c_skip ?_ | refine c_block ?_ | refine on_r ?_ | refine c_ret ?_ | refine c_exit ?_ | refine on_e ?_ | refine ob_e ?_ | refine ob_n ?_ | refine ob_r ?_ | refine ob_x rfl ?_)
  refine c_ops ?_
  refine r_op (o_mov (s_no ?_))
  try dsimp only [putF, rd, Frame.get]
  refine r_op (o_mov (s_no ?_))
  try dsimp only [putF, rd, Frame.get]
  refine r_op (o_bin rfl (by first | trivial | (unfold inI64; omega)) (s_no ?_))
  try dsimp only [putF, rd, Frame.get]
  refine r_nil (c_keep ?_)
  try dsimp only [List.map]
  try dsimp only [putF, rd, Frame.get]
  repeat (with_reducible first | refine c_seq ?_ | refine on_n ?_ | refine c_skip ?_ | refine c_block ?_ | refine on_r ?_ | refine c_ret ?_ | refine c_exit ?_ | refine on_e ?_ | refine ob_e ?_ | refine ob_n ?_ | refine ob_r ?_ | refine ob_x rfl ?_)
  refine c_dec rfl (fun hlt => ?_) (fun hlt => ?_)
  · have hs := swr_succ (l := ls) (a := a) (b := b) (i := i) (by omega) (by omega) (by omega) (by omega) (by omega) (by omega)
    generalize swr ls a b i = d at *
    have t1 := ints_at (d := d) (k := b + i) (by omega)
    have t2 := ints_at (d := d) (k := a + i) (by omega)
    repeat (with_reducible first | refine c_seq ?_ | refine on_n ?_ | refine c_skip ?_ | refine c_block ?_ | refine on_r ?_ | refine c_ret ?_ | refine c_exit ?_ | refine on_e ?_ | refine ob_e ?_ | refine ob_n ?_ | refine ob_r ?_ | refine ob_x rfl ?_)
    refine c_opsD0 hS fun S hS => ?_
    refine d_zero ?_
    refine r_op (o_mov (s_no ?_))
    try dsimp only [putF, rd, Frame.get]
    refine r_op (o_mov (s_no ?_))
    try dsimp only [putF, rd, Frame.get]
    refine r_op (o_mov (s_no ?_))
    try dsimp only [putF, rd, Frame.get]
    refine r_op ?_
    refine o_bin rfl (by unfold inI64; omega) ?_; rw [show (a : Int) + (i : Int) = ((a + i : Nat) : Int) by omega]
    refine s_no ?_
    try dsimp only [putF, rd, Frame.get]
    refine r_op (o_mov (s_no ?_))
    try dsimp only [putF, rd, Frame.get]
    refine r_op (o_mov (s_no ?_))
    try dsimp only [putF, rd, Frame.get]
    refine r_op (o_mov (s_no ?_))
    try dsimp only [putF, rd, Frame.get]
    refine r_op ?_
    refine o_bin rfl (by unfold inI64; omega) ?_; rw [show (b : Int) + (i : Int) = ((b + i : Nat) : Int) by omega]
    refine s_no ?_
    try dsimp only [putF, rd, Frame.get]
    refine r_op (o_mov (s_no ?_))
    try dsimp only [putF, rd, Frame.get]
    refine r_op (o_mov (s_no ?_))
    try dsimp only [putF, rd, Frame.get]
    refine r_op (o_mov (s_no ?_))
    try dsimp only [putF, rd, Frame.get]
    refine r_op ?_
    refine o_bin rfl (by unfold inI64; omega) ?_; rw [show (b : Int) + (i : Int) = ((b + i : Nat) : Int) by omega]
    refine s_no ?_
    try dsimp only [putF, rd, Frame.get]
    first | refine r_op (o_iaddr hS rfl rfl rfl (by omega) (s_no ?_)) | refine r_op (o_iaddrR rfl rfl (by omega) (by assumption) (s_no ?_)) | refine r_op (o_iaddrA rfl rfl (by omega) (s_no ?_)) | refine r_op (o_iaddrAR rfl rfl (by omega) (s_no ?_))
    try dsimp only [putF, rd, Frame.get]
    try simp only [Nat.zero_mul, Nat.mul_zero, Nat.mul_one, Nat.add_zero, Nat.zero_add, Nat.sub_zero, Nat.reduceAdd, Nat.reduceMul]
    first | refine r_op (o_load hS rfl rfl rfl rfl (s_no ?_)) | refine r_op (o_load hS rfl rfl (by assumption) rfl (s_no ?_)) | refine r_op (o_loadR rfl rfl rfl (s_no ?_)) | refine r_op (o_loadR rfl (by assumption) rfl (s_no ?_))
    try dsimp only [putF, rd, Frame.get]
    refine r_op (o_mov (s_no ?_))
    try dsimp only [putF, rd, Frame.get]
    refine r_op (o_mov (s_no ?_))
    try dsimp only [putF, rd, Frame.get]
    refine r_op (o_mov (s_no ?_))
    try dsimp only [putF, rd, Frame.get]
    refine r_op ?_
    refine o_bin rfl (by unfold inI64; omega) ?_; rw [show (a : Int) + (i : Int) = ((a + i : Nat) : Int) by omega]
    refine s_no ?_
    try dsimp only [putF, rd, Frame.get]
    first | refine r_op (o_iaddr hS rfl rfl rfl (by omega) (s_no ?_)) | refine r_op (o_iaddrR rfl rfl (by omega) (by assumption) (s_no ?_)) | refine r_op (o_iaddrA rfl rfl (by omega) (s_no ?_)) | refine r_op (o_iaddrAR rfl rfl (by omega) (s_no ?_))
    try dsimp only [putF, rd, Frame.get]
    try simp only [Nat.zero_mul, Nat.mul_zero, Nat.mul_one, Nat.add_zero, Nat.zero_add, Nat.sub_zero, Nat.reduceAdd, Nat.reduceMul]
    first | refine r_op (o_load hS rfl rfl rfl rfl (s_no ?_)) | refine r_op (o_load hS rfl rfl (by assumption) rfl (s_no ?_)) | refine r_op (o_loadR rfl rfl rfl (s_no ?_)) | refine r_op (o_loadR rfl (by assumption) rfl (s_no ?_))
    try dsimp only [putF, rd, Frame.get]
    first | refine r_op (o_iaddr hS rfl rfl rfl (by omega) (s_no ?_)) | refine r_op (o_iaddrR rfl rfl (by omega) (by assumption) (s_no ?_)) | refine r_op (o_iaddrA rfl rfl (by omega) (s_no ?_)) | refine r_op (o_iaddrAR rfl rfl (by omega) (s_no ?_))
    try dsimp only [putF, rd, Frame.get]
    try simp only [Nat.zero_mul, Nat.mul_zero, Nat.mul_one, Nat.add_zero, Nat.zero_add, Nat.sub_zero, Nat.reduceAdd, Nat.reduceMul]
    refine r_op ?_
    refine o_store hS rfl rfl rfl rfl (by simp; omega) fun S hS => ?_; (try dsimp only [putF, rd, Frame.get] at hS); rw [ints_set (by omega)] at hS
    refine s_no ?_
    try dsimp only [putF, rd, Frame.get]
    first | refine r_op (o_iaddr hS rfl rfl rfl (by omega) (s_no ?_)) | refine r_op (o_iaddrR rfl rfl (by omega) (by assumption) (s_no ?_)) | refine r_op (o_iaddrA rfl rfl (by omega) (s_no ?_)) | refine r_op (o_iaddrAR rfl rfl (by omega) (s_no ?_))
    try dsimp only [putF, rd, Frame.get]
    try simp only [Nat.zero_mul, Nat.mul_zero, Nat.mul_one, Nat.add_zero, Nat.zero_add, Nat.sub_zero, Nat.reduceAdd, Nat.reduceMul]
    refine r_op ?_
    refine o_store hS rfl rfl rfl rfl (by simp; omega) fun S hS => ?_; (try dsimp only [putF, rd, Frame.get] at hS); rw [ints_set (by rw [List.length_set]; omega)] at hS
    refine s_no ?_
    try dsimp only [putF, rd, Frame.get]
    refine r_nil (c_keep ?_)
    try dsimp only [List.map]
    try dsimp only [putF, rd, Frame.get]
    repeat (with_reducible first | refine c_seq ?_ | refine on_n ?_ | refine c_skip ?_ | refine c_block ?_ | refine on_r ?_ | refine c_ret ?_ | refine c_exit ?_ | refine on_e ?_ | refine ob_e ?_ | refine ob_n ?_ | refine ob_r ?_ | refine ob_x rfl ?_)
    refine c_ops ?_
    refine r_op (o_mov (s_no ?_))
    try dsimp only [putF, rd, Frame.get]
    refine r_op (o_bin rfl (by first | trivial | (unfold inI64; omega)) (s_no ?_))
    try dsimp only [putF, rd, Frame.get]
    refine r_op (o_mov (s_no ?_))
    try dsimp only [putF, rd, Frame.get]
    refine r_nil (c_keep ?_)
    try dsimp only [List.map]
    try dsimp only [putF, rd, Frame.get]
    repeat (with_reducible first | refine c_seq ?_ | refine on_n ?_ | refine c_skip ?_ | refine c_block ?_ | refine on_r ?_ | refine c_ret ?_ | refine c_exit ?_ | refine on_e ?_ | refine ob_e ?_ | refine ob_n ?_ | refine ob_r ?_ | refine ob_x rfl ?_)
    refine ⟨k - (i + 1), by omega, i + 1, rfl, by omega, rfl, ?_⟩
    rw [show ((i + 1 : Nat) : Int) = (i : Int) + 1 by omega, ← hs]
    unfold swpL
    rw [show ((a : Int) + i).toNat = a + i by omega, show ((b : Int) + i).toNat = b + i by omega, show (a : Int) + i = ((a + i : Nat) : Int) by omega, show (b : Int) + i = ((b + i : Nat) : Int) by omega]
    exact hS
  · obtain rfl : i = k := by omega
    repeat (with_reducible first | refine c_seq ?_ | refine on_n ?_ | refine c_skip ?_ | refine c_block ?_ | refine on_r ?_ | refine c_ret ?_ | refine c_exit ?_ | refine on_e ?_ | refine ob_e ?_ | refine ob_n ?_ | refine ob_r ?_ | refine ob_x rfl ?_)
    try dsimp only
    unfold slices_swapRangeCmpFunc_int__r
    refine w_nil ?_
    try dsimp only [retV, Frame.get]
    exact ⟨_, ⟨rfl, rfl⟩, hS⟩
variable {lt : Int → Int → Prop}
theorem part_ok {ok : Int → Prop} {ls d : List Int} {a b : Int} (h : Part lt ls d a b) (ho : ∀ x ∈ ls, ok x) : ∀ x ∈ d, ok x := fun x hx => ho x (h.eqv.1.mem_iff.2 hx)

theorem ins_walk {p v n : Nat} {g : FuncId} {cap : List AVal} {A : HM} {cf : Int → Int → Int} {ok : Int → Prop} (hc : Cmp g cap A cf ok) (hcf : ∀ x y, cf x y < 0 ↔ lt x y) (hs : Swo lt) (a b : Nat) (ls : List Int) (ho : ∀ x ∈ ls, ok x) (ab : a ≤ b) (bl : b ≤ ls.length) (hl : ls.length = n) (hn : n ≤ 1000000) :
    HC Try.prog f_slices_insertionSortCmpFunc_int_ [.sl p v 0 n, .int .i64 (a : Int), .int .i64 (b : Int), .fn (.func g) [] cap] (pt p (.row v 1 (I64 ls)) + A) fun r m' => r = .tup [] ∧ ∃ X, m' = pt p (.row v 1 (I64 (seg lt ls a b))) + (A + X) := by
  intro S mf hS
  refine slices_insertionSortCmpFunc_int__ok.out rfl ?_ (by simp [slices_insertionSortCmpFunc_int__fi])
  unfold vcFun slices_insertionSortCmpFunc_int__fi
  dsimp only
  unfold slices_insertionSortCmpFunc_int__c
  dsimp only [argF]
  repeat (with_reducible first | refine c_seq ?_ | refine on_n ?_ | refine c_skip ?_ | refine c_block ?_ | refine on_r ?_ | refine c_ret ?_ | refine c_exit ?_ | refine on_e ?_ | refine ob_e ?_ | refine ob_n ?_ | refine ob_r ?_ | refine ob_x rfl ?_)
  refine c_ops ?_
  refine r_op (o_mov (s_no ?_))
  try dsimp only [putF, rd, Frame.get]
  refine r_op (o_bin rfl (by first | trivial | (unfold inI64; omega)) (s_no ?_))
  try dsimp only [putF, rd, Frame.get]
  refine r_op (o_mov (s_no ?_))
  try dsimp only [putF, rd, Frame.get]
  refine r_nil (c_keep ?_)
  try dsimp only [List.map]
  try dsimp only [putF, rd, Frame.get]
  repeat (with_reducible first | refine c_seq ?_ | refine on_n ?_ | refine c_skip ?_ | refine c_block ?_ | refine on_r ?_ | refine c_ret ?_ | refine c_exit ?_ | refine on_e ?_ | refine ob_e ?_ | refine ob_n ?_ | refine ob_r ?_ | refine ob_x rfl ?_)
  refine c_loop (fun m xs S => ∃ (i : Nat) (d : List Int) (X : HM), xs = [.int .i64 (i : Int)] ∧ a + 1 ≤ i ∧ (i ≤ b ∨ i ≤ a + 1) ∧ m = b - i ∧ Part lt ls d a b ∧ SrtIn lt d a i ∧ Has S (pt p (.row v 1 (I64 d)) + (A + (X + mf)))) (b - (a + 1)) ⟨a + 1, ls, HM.nil, rfl, Nat.le_refl _, .inr (Nat.le_refl _), rfl, .refl _ _ _, fun x y h1 h2 h3 => by omega, hS.eq (by rw [HM.nil_add]; ac_rfl)⟩ ?_
  clear hS
  rintro m xs S hl' ⟨i, d, X, rfl, i0, i1, rfl, hp, hsr, hS⟩
  dsimp only [zipF, List.map, Frame.get]
  have ld := hp.len
  repeat (with_reducible first | refine c_seq ?_ | refine on_n ?_ | refine c_skip ?_ | refine c_block ?_ | refine on_r ?_ | refine c_ret ?_ | refine c_exit ?_ | refine on_e ?_ | refine ob_e ?_ | refine ob_n ?_ | refine ob_r ?_ | refine ob_x rfl ?_)
  refine c_ops ?_
  refine r_op (o_mov (s_no ?_))
  try dsimp only [putF, rd, Frame.get]
  refine r_op (o_mov (s_no ?_))
  try dsimp only [putF, rd, Frame.get]
  refine r_op (o_bin rfl (by first | trivial | (unfold inI64; omega)) (s_no ?_))
  try dsimp only [putF, rd, Frame.get]
  refine r_nil (c_keep ?_)
  try dsimp only [List.map]
  try dsimp only [putF, rd, Frame.get]
  repeat (with_reducible first | refine c_seq ?_ | refine on_n ?_ | refine c_skip ?_ | refine c_block ?_ | refine on_r ?_ | refine c_ret ?_ | refine c_exit ?_ | refine on_e ?_ | refine ob_e ?_ | refine ob_n ?_ | refine ob_r ?_ | refine ob_x rfl ?_)
  refine c_dec rfl (fun hi => ?_) (fun hi => ?_)
  rotate_left
  · repeat (with_reducible first | refine c_seq ?_ | refine on_n ?_ | refine c_skip ?_ | refine c_block ?_ | refine on_r ?_ | refine c_ret ?_ | refine c_exit ?_ | refine on_e ?_ | refine ob_e ?_ | refine ob_n ?_ | refine ob_r ?_ | refine ob_x rfl ?_)
    try dsimp only
    unfold slices_insertionSortCmpFunc_int__r
    refine w_nil ?_
    try dsimp only [retV, Frame.get]
    have e := seg_eq hs hp (fun x y p0 pq qb => hsr x y p0 pq (by omega)) (by omega) (by omega) (by omega)
    rw [e]
    exact ⟨_, ⟨rfl, X, rfl⟩, hS.eq (by ac_rfl)⟩
  repeat (with_reducible first | refine c_seq ?_ | refine on_n ?_ | refine c_skip ?_ | refine c_block ?_ | refine on_r ?_ | refine c_ret ?_ | refine c_exit ?_ | refine on_e ?_ | refine ob_e ?_ | refine ob_n ?_ | refine ob_r ?_ | refine ob_x rfl ?_)
  refine c_ops ?_
  refine r_op (o_mov (s_no ?_))
  try dsimp only [putF, rd, Frame.get]
  refine r_op (o_mov (s_no ?_))
  try dsimp only [putF, rd, Frame.get]
  refine r_nil (c_keep ?_)
  try dsimp only [List.map]
  try dsimp only [putF, rd, Frame.get]
  repeat (with_reducible first | refine c_seq ?_ | refine on_n ?_ | refine c_skip ?_ | refine c_block ?_ | refine on_r ?_ | refine c_ret ?_ | refine c_exit ?_ | refine on_e ?_ | refine ob_e ?_ | refine ob_n ?_ | refine ob_r ?_ | refine ob_x rfl ?_)
  refine c_loop (fun m xs S => ∃ (j : Nat) (e : List Int) (X : HM), xs = [.int .i64 (j : Int)] ∧ a ≤ j ∧ j ≤ i ∧ m = j ∧ Part lt ls e a b ∧ InsIn lt e a i j ∧ Has S (pt p (.row v 1 (I64 e)) + (A + (X + mf)))) i ⟨i, d, X, rfl, by omega, Nat.le_refl _, rfl, hp, hsr.ins, hS⟩ ?_
  clear hS hp hsr ld
  rintro m xs S hl2 ⟨j, e, X, rfl, j0, j1, hmj, hq, hin, hS⟩
  dsimp only [zipF, List.map, Frame.get]
  have le := hq.len
  have hok := part_ok hq ho
  by_cases haj : a < j
  · have t1 := ints_at (d := e) (k := j) (by omega)
    have t2 := ints_at (d := e) (k := j - 1) (by omega)
    have ej : ((j - 1 : Nat) : Int) = (j : Int) - 1 := by omega
    repeat (with_reducible first | refine c_seq ?_ | refine on_n ?_ | refine c_skip ?_ | refine c_block ?_ | refine on_r ?_ | refine c_ret ?_ | refine c_exit ?_ | refine on_e ?_ | refine ob_e ?_ | refine ob_n ?_ | refine ob_r ?_ | refine ob_x rfl ?_)
    refine c_opsD0 hS fun S hS => ?_
    refine d_zero ?_
    refine r_op (o_mov (s_no ?_))
    try dsimp only [putF, rd, Frame.get]
    refine r_op (o_mov (s_no ?_))
    try dsimp only [putF, rd, Frame.get]
    refine r_op (o_bin rfl (by first | trivial | (unfold inI64; omega)) (s_no ?_))
    try dsimp only [putF, rd, Frame.get]
    refine r_op ?_
    refine o_mov (s_dec (fun hg => ?_) (fun hg => by exfalso; omega))
    try dsimp only [putF, rd, Frame.get]
    first | ((with_reducible refine r_st ?_ ?_); (· rfl)) | ((with_reducible refine r_sf ?_ ?_); (· rfl)) | ((with_reducible refine r_su (xs := []) ?_ ?_); (· rfl)) | refine r_tt rfl (o_mov (s_no ?_))
    try dsimp only [putF, rd, Frame.get]
    first | ((with_reducible refine r_st ?_ ?_); (· rfl)) | ((with_reducible refine r_sf ?_ ?_); (· rfl)) | ((with_reducible refine r_su (xs := []) ?_ ?_); (· rfl)) | refine r_tt rfl (o_mov (s_no ?_))
    try dsimp only [putF, rd, Frame.get]
    first | ((with_reducible refine r_st ?_ ?_); (· rfl)) | ((with_reducible refine r_sf ?_ ?_); (· rfl)) | ((with_reducible refine r_su (xs := []) ?_ ?_); (· rfl)) | refine r_tt rfl (o_mov (s_no ?_))
    try dsimp only [putF, rd, Frame.get]
    first | ((with_reducible refine r_st ?_ ?_); (· rfl)) | ((with_reducible refine r_sf ?_ ?_); (· rfl)) | ((with_reducible refine r_su (xs := []) ?_ ?_); (· rfl)) | refine r_tt rfl (o_iaddr hS rfl rfl rfl (by omega) (s_no ?_)) | refine r_tt rfl (o_iaddrR rfl rfl (by omega) (by assumption) (s_no ?_)) | refine r_tt rfl (o_iaddrA rfl rfl (by omega) (s_no ?_)) | refine r_tt rfl (o_iaddrAR rfl rfl (by omega) (s_no ?_))
    try dsimp only [putF, rd, Frame.get]
    try simp only [Nat.zero_mul, Nat.mul_zero, Nat.mul_one, Nat.add_zero, Nat.zero_add, Nat.sub_zero, Nat.reduceAdd, Nat.reduceMul]
    first | ((with_reducible refine r_st ?_ ?_); (· rfl)) | ((with_reducible refine r_sf ?_ ?_); (· rfl)) | ((with_reducible refine r_su (xs := []) ?_ ?_); (· rfl)) | refine r_tt rfl (o_load hS rfl rfl rfl rfl (s_no ?_)) | refine r_tt rfl (o_load hS rfl rfl (by assumption) rfl (s_no ?_)) | refine r_tt rfl (o_loadR rfl rfl rfl (s_no ?_)) | refine r_tt rfl (o_loadR rfl (by assumption) rfl (s_no ?_))
    try dsimp only [putF, rd, Frame.get]
    first | ((with_reducible refine r_st ?_ ?_); (· rfl)) | ((with_reducible refine r_sf ?_ ?_); (· rfl)) | ((with_reducible refine r_su (xs := []) ?_ ?_); (· rfl)) | refine r_tt rfl (o_mov (s_no ?_))
    try dsimp only [putF, rd, Frame.get]
    first | ((with_reducible refine r_st ?_ ?_); (· rfl)) | ((with_reducible refine r_sf ?_ ?_); (· rfl)) | ((with_reducible refine r_su (xs := []) ?_ ?_); (· rfl)) | refine r_tt rfl (o_mov (s_no ?_))
    try dsimp only [putF, rd, Frame.get]
    refine r_tt rfl ?_
    refine o_bin rfl (by unfold inI64; omega) ?_; rw [show (j : Int) - 1 = ((j - 1 : Nat) : Int) by omega]
    refine s_no ?_
    try dsimp only [putF, rd, Frame.get]
    first | ((with_reducible refine r_st ?_ ?_); (· rfl)) | ((with_reducible refine r_sf ?_ ?_); (· rfl)) | ((with_reducible refine r_su (xs := []) ?_ ?_); (· rfl)) | refine r_tt rfl (o_iaddr hS rfl rfl rfl (by omega) (s_no ?_)) | refine r_tt rfl (o_iaddrR rfl rfl (by omega) (by assumption) (s_no ?_)) | refine r_tt rfl (o_iaddrA rfl rfl (by omega) (s_no ?_)) | refine r_tt rfl (o_iaddrAR rfl rfl (by omega) (s_no ?_))
    try dsimp only [putF, rd, Frame.get]
    try simp only [Nat.zero_mul, Nat.mul_zero, Nat.mul_one, Nat.add_zero, Nat.zero_add, Nat.sub_zero, Nat.reduceAdd, Nat.reduceMul]
    first | ((with_reducible refine r_st ?_ ?_); (· rfl)) | ((with_reducible refine r_sf ?_ ?_); (· rfl)) | ((with_reducible refine r_su (xs := []) ?_ ?_); (· rfl)) | refine r_tt rfl (o_load hS rfl rfl rfl rfl (s_no ?_)) | refine r_tt rfl (o_load hS rfl rfl (by assumption) rfl (s_no ?_)) | refine r_tt rfl (o_loadR rfl rfl rfl (s_no ?_)) | refine r_tt rfl (o_loadR rfl (by assumption) rfl (s_no ?_))
    try dsimp only [putF, rd, Frame.get]
    refine r_tt rfl ?_
    refine o_callv rfl ?_; dsimp only [List.map, putF, rd, Frame.get]; refine HC.use (hc _ _ (hok _ (gt_mem (l := e) (i := (j : Int)) (by omega) (by omega))) (hok _ (gt_mem (l := e) (i := ((j - 1 : Nat) : Int)) (by omega) (by omega)))) hS ?_; rintro r m' S ⟨rfl, X', rfl⟩ hS
    refine s_no ?_
    try dsimp only [putF, rd, Frame.get]
    first | ((with_reducible refine r_st ?_ ?_); (· rfl)) | ((with_reducible refine r_sf ?_ ?_); (· rfl)) | ((with_reducible refine r_su (xs := []) ?_ ?_); (· rfl)) | refine r_tt rfl (o_bin rfl (by first | trivial | (unfold inI64; omega)) (s_no ?_))
    try dsimp only [putF, rd, Frame.get]
    first | refine r_op (o_pickT rfl (s_no ?_)) | refine r_op (o_pickF rfl (s_no ?_))
    try dsimp only [putF, rd, Frame.get]
    refine r_nil (c_keep ?_)
    try dsimp only [List.map]
    try dsimp only [putF, rd, Frame.get]
    repeat (with_reducible first | refine c_seq ?_ | refine on_n ?_ | refine c_skip ?_ | refine c_block ?_ | refine on_r ?_ | refine c_ret ?_ | refine c_exit ?_ | refine on_e ?_ | refine ob_e ?_ | refine ob_n ?_ | refine ob_r ?_ | refine ob_x rfl ?_)
    refine c_dec rfl (fun hlt => ?_) (fun hlt => ?_)
    · have hlt := (hcf _ _).1 hlt
      rw [ej] at hlt
      repeat (with_reducible first | refine c_seq ?_ | refine on_n ?_ | refine c_skip ?_ | refine c_block ?_ | refine on_r ?_ | refine c_ret ?_ | refine c_exit ?_ | refine on_e ?_ | refine ob_e ?_ | refine ob_n ?_ | refine ob_r ?_ | refine ob_x rfl ?_)
      refine c_opsD0 hS fun S hS => ?_
      refine d_zero ?_
      refine r_op (o_mov (s_no ?_))
      try dsimp only [putF, rd, Frame.get]
      refine r_op (o_mov (s_no ?_))
      try dsimp only [putF, rd, Frame.get]
      refine r_op (o_mov (s_no ?_))
      try dsimp only [putF, rd, Frame.get]
      refine r_op (o_mov (s_no ?_))
      try dsimp only [putF, rd, Frame.get]
      refine r_op ?_
      refine o_bin rfl (by unfold inI64; omega) ?_; rw [show (j : Int) - 1 = ((j - 1 : Nat) : Int) by omega]
      refine s_no ?_
      try dsimp only [putF, rd, Frame.get]
      refine r_op (o_mov (s_no ?_))
      try dsimp only [putF, rd, Frame.get]
      refine r_op (o_mov (s_no ?_))
      try dsimp only [putF, rd, Frame.get]
      refine r_op ?_
      refine o_bin rfl (by unfold inI64; omega) ?_; rw [show (j : Int) - 1 = ((j - 1 : Nat) : Int) by omega]
      refine s_no ?_
      try dsimp only [putF, rd, Frame.get]
      first | refine r_op (o_iaddr hS rfl rfl rfl (by omega) (s_no ?_)) | refine r_op (o_iaddrR rfl rfl (by omega) (by assumption) (s_no ?_)) | refine r_op (o_iaddrA rfl rfl (by omega) (s_no ?_)) | refine r_op (o_iaddrAR rfl rfl (by omega) (s_no ?_))
      try dsimp only [putF, rd, Frame.get]
      try simp only [Nat.zero_mul, Nat.mul_zero, Nat.mul_one, Nat.add_zero, Nat.zero_add, Nat.sub_zero, Nat.reduceAdd, Nat.reduceMul]
      first | refine r_op (o_load hS rfl rfl rfl rfl (s_no ?_)) | refine r_op (o_load hS rfl rfl (by assumption) rfl (s_no ?_)) | refine r_op (o_loadR rfl rfl rfl (s_no ?_)) | refine r_op (o_loadR rfl (by assumption) rfl (s_no ?_))
      try dsimp only [putF, rd, Frame.get]
      refine r_op (o_mov (s_no ?_))
      try dsimp only [putF, rd, Frame.get]
      refine r_op (o_mov (s_no ?_))
      try dsimp only [putF, rd, Frame.get]
      first | refine r_op (o_iaddr hS rfl rfl rfl (by omega) (s_no ?_)) | refine r_op (o_iaddrR rfl rfl (by omega) (by assumption) (s_no ?_)) | refine r_op (o_iaddrA rfl rfl (by omega) (s_no ?_)) | refine r_op (o_iaddrAR rfl rfl (by omega) (s_no ?_))
      try dsimp only [putF, rd, Frame.get]
      try simp only [Nat.zero_mul, Nat.mul_zero, Nat.mul_one, Nat.add_zero, Nat.zero_add, Nat.sub_zero, Nat.reduceAdd, Nat.reduceMul]
      first | refine r_op (o_load hS rfl rfl rfl rfl (s_no ?_)) | refine r_op (o_load hS rfl rfl (by assumption) rfl (s_no ?_)) | refine r_op (o_loadR rfl rfl rfl (s_no ?_)) | refine r_op (o_loadR rfl (by assumption) rfl (s_no ?_))
      try dsimp only [putF, rd, Frame.get]
      first | refine r_op (o_iaddr hS rfl rfl rfl (by omega) (s_no ?_)) | refine r_op (o_iaddrR rfl rfl (by omega) (by assumption) (s_no ?_)) | refine r_op (o_iaddrA rfl rfl (by omega) (s_no ?_)) | refine r_op (o_iaddrAR rfl rfl (by omega) (s_no ?_))
      try dsimp only [putF, rd, Frame.get]
      try simp only [Nat.zero_mul, Nat.mul_zero, Nat.mul_one, Nat.add_zero, Nat.zero_add, Nat.sub_zero, Nat.reduceAdd, Nat.reduceMul]
      refine r_op ?_
      refine o_store hS rfl rfl rfl rfl (by simp; omega) fun S hS => ?_; (try dsimp only [putF, rd, Frame.get] at hS); rw [ints_set (by omega)] at hS
      refine s_no ?_
      try dsimp only [putF, rd, Frame.get]
      first | refine r_op (o_iaddr hS rfl rfl rfl (by omega) (s_no ?_)) | refine r_op (o_iaddrR rfl rfl (by omega) (by assumption) (s_no ?_)) | refine r_op (o_iaddrA rfl rfl (by omega) (s_no ?_)) | refine r_op (o_iaddrAR rfl rfl (by omega) (s_no ?_))
      try dsimp only [putF, rd, Frame.get]
      try simp only [Nat.zero_mul, Nat.mul_zero, Nat.mul_one, Nat.add_zero, Nat.zero_add, Nat.sub_zero, Nat.reduceAdd, Nat.reduceMul]
      refine r_op ?_
      refine o_store hS rfl rfl rfl rfl (by simp; omega) fun S hS => ?_; (try dsimp only [putF, rd, Frame.get] at hS); rw [ints_set (by rw [List.length_set]; omega)] at hS
      refine s_no ?_
      try dsimp only [putF, rd, Frame.get]
      refine r_nil (c_keep ?_)
      try dsimp only [List.map]
      try dsimp only [putF, rd, Frame.get]
      repeat (with_reducible first | refine c_seq ?_ | refine on_n ?_ | refine c_skip ?_ | refine c_block ?_ | refine on_r ?_ | refine c_ret ?_ | refine c_exit ?_ | refine on_e ?_ | refine ob_e ?_ | refine ob_n ?_ | refine ob_r ?_ | refine ob_x rfl ?_)
      refine c_ops ?_
      refine r_op (o_mov (s_no ?_))
      try dsimp only [putF, rd, Frame.get]
      refine r_op ?_
      refine o_bin rfl (by unfold inI64; omega) ?_; rw [show (j : Int) - 1 = ((j - 1 : Nat) : Int) by omega]
      refine s_no ?_
      try dsimp only [putF, rd, Frame.get]
      refine r_op (o_mov (s_no ?_))
      try dsimp only [putF, rd, Frame.get]
      refine r_nil (c_keep ?_)
      try dsimp only [List.map]
      try dsimp only [putF, rd, Frame.get]
      repeat (with_reducible first | refine c_seq ?_ | refine on_n ?_ | refine c_skip ?_ | refine c_block ?_ | refine on_r ?_ | refine c_ret ?_ | refine c_exit ?_ | refine on_e ?_ | refine ob_e ?_ | refine ob_n ?_ | refine ob_r ?_ | refine ob_x rfl ?_)
      refine ⟨j - 1, by omega, j - 1, swpL e j (j - 1), X' + X, rfl, by omega, by omega, rfl, swp_part hs hq (by omega) (by omega) (by omega) (by omega) hlt, ?_, ?_⟩
      · rw [ej]; exact hin.step hs (by omega) (by omega) (by omega) (by omega) hlt
      · unfold swpL
        rw [show ((j : Int) - 1).toNat = j - 1 by omega, Int.toNat_natCast, ← ej]
        exact hS.eq (by ac_rfl)
    · have hlt : ¬ lt (gt e (j : Int)) (gt e ((j : Int) - 1)) := fun q => hlt ((hcf _ _).2 (by rw [ej]; exact q))
      repeat (with_reducible first | refine c_seq ?_ | refine on_n ?_ | refine c_skip ?_ | refine c_block ?_ | refine on_r ?_ | refine c_ret ?_ | refine c_exit ?_ | refine on_e ?_ | refine ob_e ?_ | refine ob_n ?_ | refine ob_r ?_ | refine ob_x rfl ?_)
      refine c_ops ?_
      refine r_op (o_mov (s_no ?_))
      try dsimp only [putF, rd, Frame.get]
      refine r_op (o_bin rfl (by first | trivial | (unfold inI64; omega)) (s_no ?_))
      try dsimp only [putF, rd, Frame.get]
      refine r_op (o_mov (s_no ?_))
      try dsimp only [putF, rd, Frame.get]
      refine r_nil (c_keep ?_)
      try dsimp only [List.map]
      try dsimp only [putF, rd, Frame.get]
      repeat (with_reducible first | refine c_seq ?_ | refine on_n ?_ | refine c_skip ?_ | refine c_block ?_ | refine on_r ?_ | refine c_ret ?_ | refine c_exit ?_ | refine on_e ?_ | refine ob_e ?_ | refine ob_n ?_ | refine ob_r ?_ | refine ob_x rfl ?_)
      exact ⟨b - (i + 1), by omega, i + 1, e, X' + X, rfl, by omega, .inl (by omega), rfl, hq, hin.done hs (by omega) (by omega) fun w => hlt w.2, hS.eq (by ac_rfl)⟩
  · repeat (with_reducible first | refine c_seq ?_ | refine on_n ?_ | refine c_skip ?_ | refine c_block ?_ | refine on_r ?_ | refine c_ret ?_ | refine c_exit ?_ | refine on_e ?_ | refine ob_e ?_ | refine ob_n ?_ | refine ob_r ?_ | refine ob_x rfl ?_)
    refine c_opsD0 hS fun S hS => ?_
    refine d_zero ?_
    refine r_op (o_mov (s_no ?_))
    try dsimp only [putF, rd, Frame.get]
    refine r_op (o_mov (s_no ?_))
    try dsimp only [putF, rd, Frame.get]
    refine r_op (o_bin rfl (by first | trivial | (unfold inI64; omega)) (s_no ?_))
    try dsimp only [putF, rd, Frame.get]
    refine r_op ?_
    refine o_mov (s_dec (fun hg => by exfalso; omega) (fun hg => ?_))
    try dsimp only [putF, rd, Frame.get]
    first | ((with_reducible refine r_st ?_ ?_); (· rfl)) | ((with_reducible refine r_sf ?_ ?_); (· rfl)) | ((with_reducible refine r_su (xs := []) ?_ ?_); (· rfl)) | refine r_tt rfl (o_mov (s_no ?_))
    try dsimp only [putF, rd, Frame.get]
    first | ((with_reducible refine r_st ?_ ?_); (· rfl)) | ((with_reducible refine r_sf ?_ ?_); (· rfl)) | ((with_reducible refine r_su (xs := []) ?_ ?_); (· rfl)) | refine r_tt rfl (o_mov (s_no ?_))
    try dsimp only [putF, rd, Frame.get]
    first | ((with_reducible refine r_st ?_ ?_); (· rfl)) | ((with_reducible refine r_sf ?_ ?_); (· rfl)) | ((with_reducible refine r_su (xs := []) ?_ ?_); (· rfl)) | refine r_tt rfl (o_mov (s_no ?_))
    try dsimp only [putF, rd, Frame.get]
    first | ((with_reducible refine r_st ?_ ?_); (· rfl)) | ((with_reducible refine r_sf ?_ ?_); (· rfl)) | ((with_reducible refine r_su (xs := []) ?_ ?_); (· rfl)) | refine r_tt rfl (o_iaddr hS rfl rfl rfl (by omega) (s_no ?_)) | refine r_tt rfl (o_iaddrR rfl rfl (by omega) (by assumption) (s_no ?_)) | refine r_tt rfl (o_iaddrA rfl rfl (by omega) (s_no ?_)) | refine r_tt rfl (o_iaddrAR rfl rfl (by omega) (s_no ?_))
    try dsimp only [putF, rd, Frame.get]
    try simp only [Nat.zero_mul, Nat.mul_zero, Nat.mul_one, Nat.add_zero, Nat.zero_add, Nat.sub_zero, Nat.reduceAdd, Nat.reduceMul]
    first | ((with_reducible refine r_st ?_ ?_); (· rfl)) | ((with_reducible refine r_sf ?_ ?_); (· rfl)) | ((with_reducible refine r_su (xs := []) ?_ ?_); (· rfl)) | refine r_tt rfl (o_load hS rfl rfl rfl rfl (s_no ?_)) | refine r_tt rfl (o_load hS rfl rfl (by assumption) rfl (s_no ?_)) | refine r_tt rfl (o_loadR rfl rfl rfl (s_no ?_)) | refine r_tt rfl (o_loadR rfl (by assumption) rfl (s_no ?_))
    try dsimp only [putF, rd, Frame.get]
    first | ((with_reducible refine r_st ?_ ?_); (· rfl)) | ((with_reducible refine r_sf ?_ ?_); (· rfl)) | ((with_reducible refine r_su (xs := []) ?_ ?_); (· rfl)) | refine r_tt rfl (o_mov (s_no ?_))
    try dsimp only [putF, rd, Frame.get]
    first | ((with_reducible refine r_st ?_ ?_); (· rfl)) | ((with_reducible refine r_sf ?_ ?_); (· rfl)) | ((with_reducible refine r_su (xs := []) ?_ ?_); (· rfl)) | refine r_tt rfl (o_mov (s_no ?_))
    try dsimp only [putF, rd, Frame.get]
    first | ((with_reducible refine r_st ?_ ?_); (· rfl)) | ((with_reducible refine r_sf ?_ ?_); (· rfl)) | ((with_reducible refine r_su (xs := []) ?_ ?_); (· rfl)) | refine r_tt rfl (o_bin rfl (by first | trivial | (unfold inI64; omega)) (s_no ?_))
    try dsimp only [putF, rd, Frame.get]
    first | ((with_reducible refine r_st ?_ ?_); (· rfl)) | ((with_reducible refine r_sf ?_ ?_); (· rfl)) | ((with_reducible refine r_su (xs := []) ?_ ?_); (· rfl)) | refine r_tt rfl (o_iaddr hS rfl rfl rfl (by omega) (s_no ?_)) | refine r_tt rfl (o_iaddrR rfl rfl (by omega) (by assumption) (s_no ?_)) | refine r_tt rfl (o_iaddrA rfl rfl (by omega) (s_no ?_)) | refine r_tt rfl (o_iaddrAR rfl rfl (by omega) (s_no ?_))
    try dsimp only [putF, rd, Frame.get]
    try simp only [Nat.zero_mul, Nat.mul_zero, Nat.mul_one, Nat.add_zero, Nat.zero_add, Nat.sub_zero, Nat.reduceAdd, Nat.reduceMul]
    first | ((with_reducible refine r_st ?_ ?_); (· rfl)) | ((with_reducible refine r_sf ?_ ?_); (· rfl)) | ((with_reducible refine r_su (xs := []) ?_ ?_); (· rfl)) | refine r_tt rfl (o_load hS rfl rfl rfl rfl (s_no ?_)) | refine r_tt rfl (o_load hS rfl rfl (by assumption) rfl (s_no ?_)) | refine r_tt rfl (o_loadR rfl rfl rfl (s_no ?_)) | refine r_tt rfl (o_loadR rfl (by assumption) rfl (s_no ?_))
    try dsimp only [putF, rd, Frame.get]
    first | ((with_reducible refine r_st ?_ ?_); (· rfl)) | ((with_reducible refine r_sf ?_ ?_); (· rfl)) | ((with_reducible refine r_su (xs := []) ?_ ?_); (· rfl))
    try dsimp only [putF, rd, Frame.get]
    first | ((with_reducible refine r_st ?_ ?_); (· rfl)) | ((with_reducible refine r_sf ?_ ?_); (· rfl)) | ((with_reducible refine r_su (xs := []) ?_ ?_); (· rfl)) | refine r_tt rfl (o_bin rfl (by first | trivial | (unfold inI64; omega)) (s_no ?_))
    try dsimp only [putF, rd, Frame.get]
    first | refine r_op (o_pickT rfl (s_no ?_)) | refine r_op (o_pickF rfl (s_no ?_))
    try dsimp only [putF, rd, Frame.get]
    refine r_nil (c_keep ?_)
    try dsimp only [List.map]
    try dsimp only [putF, rd, Frame.get]
    repeat (with_reducible first | refine c_seq ?_ | refine on_n ?_ | refine c_skip ?_ | refine c_block ?_ | refine on_r ?_ | refine c_ret ?_ | refine c_exit ?_ | refine on_e ?_ | refine ob_e ?_ | refine ob_n ?_ | refine ob_r ?_ | refine ob_x rfl ?_)
    refine c_bool rfl (fun h => by cases h) (fun _ => ?_)
    repeat (with_reducible first | refine c_seq ?_ | refine on_n ?_ | refine c_skip ?_ | refine c_block ?_ | refine on_r ?_ | refine c_ret ?_ | refine c_exit ?_ | refine on_e ?_ | refine ob_e ?_ | refine ob_n ?_ | refine ob_r ?_ | refine ob_x rfl ?_)
    refine c_ops ?_
    refine r_op (o_mov (s_no ?_))
    try dsimp only [putF, rd, Frame.get]
    refine r_op (o_bin rfl (by first | trivial | (unfold inI64; omega)) (s_no ?_))
    try dsimp only [putF, rd, Frame.get]
    refine r_op (o_mov (s_no ?_))
    try dsimp only [putF, rd, Frame.get]
    refine r_nil (c_keep ?_)
    try dsimp only [List.map]
    try dsimp only [putF, rd, Frame.get]
    repeat (with_reducible first | refine c_seq ?_ | refine on_n ?_ | refine c_skip ?_ | refine c_block ?_ | refine on_r ?_ | refine c_ret ?_ | refine c_exit ?_ | refine on_e ?_ | refine ob_e ?_ | refine ob_n ?_ | refine ob_r ?_ | refine ob_x rfl ?_)
    exact ⟨b - (i + 1), by omega, i + 1, e, X, rfl, by omega, .inl (by omega), rfl, hq, hin.done hs (by omega) (by omega) fun w => haj (by omega), hS⟩

theorem rot_walk {p v n : Nat} {fv : AVal} (a m b : Nat) (ls : List Int) (am : a < m) (mb : m < b) (bl : b ≤ ls.length) (hl : ls.length = n) (hn : n ≤ 1000000) :
    HC Try.prog f_slices_rotateCmpFunc_int_ [.sl p v 0 n, .int .i64 (a : Int), .int .i64 (m : Int), .int .i64 (b : Int), fv] (pt p (.row v 1 (I64 ls))) fun r m' => r = .tup [] ∧ m' = pt p (.row v 1 (I64 (rotL ls a m b))) := by
  intro S mf hS
  refine slices_rotateCmpFunc_int__ok.out rfl ?_ (by simp [slices_rotateCmpFunc_int__fi])
  unfold vcFun slices_rotateCmpFunc_int__fi
  dsimp only
  unfold slices_rotateCmpFunc_int__c
  dsimp only [argF]
  repeat (with_reducible first | refine c_seq ?_ | refine on_n ?_ | refine c_skip ?_ | refine c_block ?_ | refine on_r ?_ | refine c_ret ?_ | refine c_exit ?_ | refine on_e ?_ | refine ob_e ?_ | refine ob_n ?_ | refine ob_r ?_ | refine ob_x rfl ?_)
  refine c_ops ?_
  refine r_op (o_mov (s_no ?_))
  try dsimp only [putF, rd, Frame.get]
  refine r_op (o_mov (s_no ?_))
  try dsimp only [putF, rd, Frame.get]
  refine r_op ?_
  refine o_bin rfl (by unfold inI64; omega) ?_; rw [show (m : Int) - (a : Int) = ((m - a : Nat) : Int) by omega]
  refine s_no ?_
  try dsimp only [putF, rd, Frame.get]
  refine r_op (o_mov (s_no ?_))
  try dsimp only [putF, rd, Frame.get]
  refine r_nil (c_keep ?_)
  try dsimp only [List.map]
  try dsimp only [putF, rd, Frame.get]
  repeat (with_reducible first | refine c_seq ?_ | refine on_n ?_ | refine c_skip ?_ | refine c_block ?_ | refine on_r ?_ | refine c_ret ?_ | refine c_exit ?_ | refine on_e ?_ | refine ob_e ?_ | refine ob_n ?_ | refine ob_r ?_ | refine ob_x rfl ?_)
  refine c_ops ?_
  refine r_op (o_mov (s_no ?_))
  try dsimp only [putF, rd, Frame.get]
  refine r_op (o_mov (s_no ?_))
  try dsimp only [putF, rd, Frame.get]
  refine r_op ?_
  refine o_bin rfl (by unfold inI64; omega) ?_; rw [show (b : Int) - (m : Int) = ((b - m : Nat) : Int) by omega]
  refine s_no ?_
  try dsimp only [putF, rd, Frame.get]
  refine r_op (o_mov (s_no ?_))
  try dsimp only [putF, rd, Frame.get]
  refine r_nil (c_keep ?_)
  try dsimp only [List.map]
  try dsimp only [putF, rd, Frame.get]
  repeat (with_reducible first | refine c_seq ?_ | refine on_n ?_ | refine c_skip ?_ | refine c_block ?_ | refine on_r ?_ | refine c_ret ?_ | refine c_exit ?_ | refine on_e ?_ | refine ob_e ?_ | refine ob_n ?_ | refine ob_r ?_ | refine ob_x rfl ?_)
  refine c_loop (fun k xs S => ∃ (i j : Nat) (d : List Int), xs = [.int .i64 (i : Int), .int .i64 (j : Int)] ∧ 0 < i ∧ 0 < j ∧ i ≤ m - a ∧ j ≤ b - m ∧ k = i + j ∧ d.length = ls.length ∧ rotL d ((m : Int) - i) m ((m : Int) + j) = rotL ls a m b ∧ Has S (pt p (.row v 1 (I64 d)) + mf)) (m - a + (b - m)) ⟨m - a, b - m, ls, rfl, by omega, by omega, Nat.le_refl _, Nat.le_refl _, rfl, rfl, by rw [show (m : Int) - ((m - a : Nat) : Int) = a by omega, show (m : Int) + ((b - m : Nat) : Int) = b by omega], hS⟩ ?_
  clear hS
  rintro k xs S hl' ⟨i, j, d, rfl, i0, j0, i1, j1, hk, dl, e, hS⟩
  dsimp only [zipF, List.map, Frame.get]
  repeat (with_reducible first | refine c_seq ?_ | refine on_n ?_ | refine c_skip ?_ | refine c_block ?_ | refine on_r ?_ | refine c_ret ?_ | refine c_exit ?_ | refine on_e ?_ | refine ob_e ?_ | refine ob_n ?_ | refine ob_r ?_ | refine ob_x rfl ?_)
  refine c_ops ?_
  refine r_op (o_mov (s_no ?_))
  try dsimp only [putF, rd, Frame.get]
  refine r_op (o_mov (s_no ?_))
  try dsimp only [putF, rd, Frame.get]
  refine r_op (o_bin rfl (by first | trivial | (unfold inI64; omega)) (s_no ?_))
  try dsimp only [putF, rd, Frame.get]
  refine r_nil (c_keep ?_)
  try dsimp only [List.map]
  try dsimp only [putF, rd, Frame.get]
  repeat (with_reducible first | refine c_seq ?_ | refine on_n ?_ | refine c_skip ?_ | refine c_block ?_ | refine on_r ?_ | refine c_ret ?_ | refine c_exit ?_ | refine on_e ?_ | refine ob_e ?_ | refine ob_n ?_ | refine ob_r ?_ | refine ob_x rfl ?_)
  refine c_ndec rfl (fun hne => ?_) (fun heq => ?_)
  · repeat (with_reducible first | refine c_seq ?_ | refine on_n ?_ | refine c_skip ?_ | refine c_block ?_ | refine on_r ?_ | refine c_ret ?_ | refine c_exit ?_ | refine on_e ?_ | refine ob_e ?_ | refine ob_n ?_ | refine ob_r ?_ | refine ob_x rfl ?_)
    refine c_ops ?_
    refine r_op (o_mov (s_no ?_))
    try dsimp only [putF, rd, Frame.get]
    refine r_op (o_mov (s_no ?_))
    try dsimp only [putF, rd, Frame.get]
    refine r_op (o_bin rfl (by first | trivial | (unfold inI64; omega)) (s_no ?_))
    try dsimp only [putF, rd, Frame.get]
    refine r_nil (c_keep ?_)
    try dsimp only [List.map]
    try dsimp only [putF, rd, Frame.get]
    repeat (with_reducible first | refine c_seq ?_ | refine on_n ?_ | refine c_skip ?_ | refine c_block ?_ | refine on_r ?_ | refine c_ret ?_ | refine c_exit ?_ | refine on_e ?_ | refine ob_e ?_ | refine ob_n ?_ | refine ob_r ?_ | refine ob_x rfl ?_)
    refine c_dec rfl (fun c => ?_) (fun c => ?_)
    · repeat (with_reducible first | refine c_seq ?_ | refine on_n ?_ | refine c_skip ?_ | refine c_block ?_ | refine on_r ?_ | refine c_ret ?_ | refine c_exit ?_ | refine on_e ?_ | refine ob_e ?_ | refine ob_n ?_ | refine ob_r ?_ | refine ob_x rfl ?_)
      refine c_ops ?_
      refine r_op (o_mov (s_no ?_))
      try dsimp only [putF, rd, Frame.get]
      refine r_op (o_mov (s_no ?_))
      try dsimp only [putF, rd, Frame.get]
      refine r_op (o_mov (s_no ?_))
      try dsimp only [putF, rd, Frame.get]
      refine r_op ?_
      refine o_bin rfl (by unfold inI64; omega) ?_; rw [show (m : Int) - (i : Int) = ((m - i : Nat) : Int) by omega]
      refine s_no ?_
      try dsimp only [putF, rd, Frame.get]
      refine r_op (o_mov (s_no ?_))
      try dsimp only [putF, rd, Frame.get]
      refine r_op (o_mov (s_no ?_))
      try dsimp only [putF, rd, Frame.get]
      refine r_op (o_mov (s_no ?_))
      try dsimp only [putF, rd, Frame.get]
      refine r_op (o_call ?_)
      dsimp only [List.map, putF, rd, Frame.get]
      refine HC.use (swr_walk (m - i) m j d (by omega) (by omega) (.inl (by omega)) (by omega) hn) hS ?_; rintro r m' S ⟨rfl, rfl⟩ hS
      refine s_no ?_
      try dsimp only [putF, rd, Frame.get]
      refine r_nil (c_keep ?_)
      try dsimp only [List.map]
      try dsimp only [putF, rd, Frame.get]
      repeat (with_reducible first | refine c_seq ?_ | refine on_n ?_ | refine c_skip ?_ | refine c_block ?_ | refine on_r ?_ | refine c_ret ?_ | refine c_exit ?_ | refine on_e ?_ | refine ob_e ?_ | refine ob_n ?_ | refine ob_r ?_ | refine ob_x rfl ?_)
      refine c_ops ?_
      refine r_op (o_mov (s_no ?_))
      try dsimp only [putF, rd, Frame.get]
      refine r_op (o_mov (s_no ?_))
      try dsimp only [putF, rd, Frame.get]
      refine r_op ?_
      refine o_bin rfl (by unfold inI64; omega) ?_; rw [show (i : Int) - (j : Int) = ((i - j : Nat) : Int) by omega]
      refine s_no ?_
      try dsimp only [putF, rd, Frame.get]
      refine r_op (o_mov (s_no ?_))
      try dsimp only [putF, rd, Frame.get]
      refine r_nil (c_keep ?_)
      try dsimp only [List.map]
      try dsimp only [putF, rd, Frame.get]
      repeat (with_reducible first | refine c_seq ?_ | refine on_n ?_ | refine c_skip ?_ | refine c_block ?_ | refine on_r ?_ | refine c_ret ?_ | refine c_exit ?_ | refine on_e ?_ | refine ob_e ?_ | refine ob_n ?_ | refine ob_r ?_ | refine ob_x rfl ?_)
      refine ⟨i - j + j, by omega, i - j, j, _, rfl, by omega, by omega, by omega, by omega, rfl, by rw [swr_len]; exact dl, ?_, hS⟩
      rw [show (m : Int) - ((i - j : Nat) : Int) = m - ((i : Int) - j) by omega, show ((m - i : Nat) : Int) = (m : Int) - i by omega, rot_step1 (by omega) (by omega) (by omega) (by omega)]
      exact e
    · repeat (with_reducible first | refine c_seq ?_ | refine on_n ?_ | refine c_skip ?_ | refine c_block ?_ | refine on_r ?_ | refine c_ret ?_ | refine c_exit ?_ | refine on_e ?_ | refine ob_e ?_ | refine ob_n ?_ | refine ob_r ?_ | refine ob_x rfl ?_)
      refine c_ops ?_
      refine r_op (o_mov (s_no ?_))
      try dsimp only [putF, rd, Frame.get]
      refine r_op (o_mov (s_no ?_))
      try dsimp only [putF, rd, Frame.get]
      refine r_op (o_mov (s_no ?_))
      try dsimp only [putF, rd, Frame.get]
      refine r_op ?_
      refine o_bin rfl (by unfold inI64; omega) ?_; rw [show (m : Int) - (i : Int) = ((m - i : Nat) : Int) by omega]
      refine s_no ?_
      try dsimp only [putF, rd, Frame.get]
      refine r_op (o_mov (s_no ?_))
      try dsimp only [putF, rd, Frame.get]
      refine r_op (o_mov (s_no ?_))
      try dsimp only [putF, rd, Frame.get]
      refine r_op ?_
      refine o_bin rfl (by unfold inI64; omega) ?_; rw [show (m : Int) + (j : Int) = ((m + j : Nat) : Int) by omega]
      refine s_no ?_
      try dsimp only [putF, rd, Frame.get]
      refine r_op (o_mov (s_no ?_))
      try dsimp only [putF, rd, Frame.get]
      refine r_op ?_
      refine o_bin rfl (by unfold inI64; omega) ?_; rw [show ((m + j : Nat) : Int) - (i : Int) = ((m + j - i : Nat) : Int) by omega]
      refine s_no ?_
      try dsimp only [putF, rd, Frame.get]
      refine r_op (o_mov (s_no ?_))
      try dsimp only [putF, rd, Frame.get]
      refine r_op (o_mov (s_no ?_))
      try dsimp only [putF, rd, Frame.get]
      refine r_op (o_call ?_)
      dsimp only [List.map, putF, rd, Frame.get]
      refine HC.use (swr_walk (m - i) (m + j - i) i d (by omega) (by omega) (.inl (by omega)) (by omega) hn) hS ?_; rintro r m' S ⟨rfl, rfl⟩ hS
      refine s_no ?_
      try dsimp only [putF, rd, Frame.get]
      refine r_nil (c_keep ?_)
      try dsimp only [List.map]
      try dsimp only [putF, rd, Frame.get]
      repeat (with_reducible first | refine c_seq ?_ | refine on_n ?_ | refine c_skip ?_ | refine c_block ?_ | refine on_r ?_ | refine c_ret ?_ | refine c_exit ?_ | refine on_e ?_ | refine ob_e ?_ | refine ob_n ?_ | refine ob_r ?_ | refine ob_x rfl ?_)
      refine c_ops ?_
      refine r_op (o_mov (s_no ?_))
      try dsimp only [putF, rd, Frame.get]
      refine r_op (o_mov (s_no ?_))
      try dsimp only [putF, rd, Frame.get]
      refine r_op ?_
      refine o_bin rfl (by unfold inI64; omega) ?_; rw [show (j : Int) - (i : Int) = ((j - i : Nat) : Int) by omega]
      refine s_no ?_
      try dsimp only [putF, rd, Frame.get]
      refine r_op (o_mov (s_no ?_))
      try dsimp only [putF, rd, Frame.get]
      refine r_nil (c_keep ?_)
      try dsimp only [List.map]
      try dsimp only [putF, rd, Frame.get]
      repeat (with_reducible first | refine c_seq ?_ | refine on_n ?_ | refine c_skip ?_ | refine c_block ?_ | refine on_r ?_ | refine c_ret ?_ | refine c_exit ?_ | refine on_e ?_ | refine ob_e ?_ | refine ob_n ?_ | refine ob_r ?_ | refine ob_x rfl ?_)
      refine ⟨i + (j - i), by omega, i, j - i, _, rfl, by omega, by omega, by omega, by omega, rfl, by rw [swr_len]; exact dl, ?_, hS⟩
      rw [show (m : Int) + ((j - i : Nat) : Int) = m + ((j : Int) - i) by omega, show ((m - i : Nat) : Int) = (m : Int) - i by omega, show ((m + j - i : Nat) : Int) = (m : Int) + j - i by omega, rot_step2 (by omega) (by omega) (by omega) (by omega)]
      exact e
  · obtain rfl : i = j := by omega
    repeat (with_reducible first | refine c_seq ?_ | refine on_n ?_ | refine c_skip ?_ | refine c_block ?_ | refine on_r ?_ | refine c_ret ?_ | refine c_exit ?_ | refine on_e ?_ | refine ob_e ?_ | refine ob_n ?_ | refine ob_r ?_ | refine ob_x rfl ?_)
    refine c_ops ?_
    refine r_op (o_mov (s_no ?_))
    try dsimp only [putF, rd, Frame.get]
    refine r_op (o_mov (s_no ?_))
    try dsimp only [putF, rd, Frame.get]
    refine r_op (o_mov (s_no ?_))
    try dsimp only [putF, rd, Frame.get]
    refine r_op ?_
    refine o_bin rfl (by unfold inI64; omega) ?_; rw [show (m : Int) - (i : Int) = ((m - i : Nat) : Int) by omega]
    refine s_no ?_
    try dsimp only [putF, rd, Frame.get]
    refine r_op (o_mov (s_no ?_))
    try dsimp only [putF, rd, Frame.get]
    refine r_op (o_mov (s_no ?_))
    try dsimp only [putF, rd, Frame.get]
    refine r_op (o_mov (s_no ?_))
    try dsimp only [putF, rd, Frame.get]
    refine r_op (o_call ?_)
    dsimp only [List.map, putF, rd, Frame.get]
    refine HC.use (swr_walk (m - i) m i d (by omega) (by omega) (.inl (by omega)) (by omega) hn) hS ?_; rintro r m' S ⟨rfl, rfl⟩ hS
    refine s_no ?_
    try dsimp only [putF, rd, Frame.get]
    refine r_nil (c_keep ?_)
    try dsimp only [List.map]
    try dsimp only [putF, rd, Frame.get]
    repeat (with_reducible first | refine c_seq ?_ | refine on_n ?_ | refine c_skip ?_ | refine c_block ?_ | refine on_r ?_ | refine c_ret ?_ | refine c_exit ?_ | refine on_e ?_ | refine ob_e ?_ | refine ob_n ?_ | refine ob_r ?_ | refine ob_x rfl ?_)
    try dsimp only
    unfold slices_rotateCmpFunc_int__r
    refine w_nil ?_
    try dsimp only [retV, Frame.get]
    rw [show ((m - i : Nat) : Int) = (m : Int) - i by omega, rot_last (by omega) (by omega) (by omega), e] at hS
    exact ⟨_, ⟨rfl, rfl⟩, hS⟩
end Go.Proofs.Ytoiebdgnfjgcpaa.M
