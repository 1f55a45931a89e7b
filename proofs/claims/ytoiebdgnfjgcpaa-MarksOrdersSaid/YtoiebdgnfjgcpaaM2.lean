/- The library's stable sort at integers: its merge, and the whole: walked. Conditions: none. -/
import Derived.Test.YtoiebdgnfjgcpaaM1
set_option linter.unusedVariables false
set_option linter.unusedSimpArgs false
set_option maxRecDepth 100000
set_option maxHeartbeats 1000000
namespace Go.Proofs.Ytoiebdgnfjgcpaa.M
open Go.Vc Go.Fu
section
variable {lt : Int → Int → Prop} {p v n : Nat} {g : FuncId} {cap : List AVal} {A : HM} {cf : Int → Int → Int} {ok : Int → Prop}
abbrev SymSt (lt : Int → Int → Prop) (p v n : Nat) (g : FuncId) (cap : List AVal) (A : HM) (ok : Int → Prop) (N : Nat) : Prop :=
  ∀ (a m b : Nat) (ls : List Int), a < m → m < b → b ≤ ls.length → b - a < N → SrtIn lt ls a m → SrtIn lt ls m b → (∀ x ∈ ls, ok x) → ls.length = n →
    HC Try.prog f_slices_symMergeCmpFunc_int_ [.sl p v 0 n, .int .i64 (a : Int), .int .i64 (m : Int), .int .i64 (b : Int), .fn (.func g) [] cap] (pt p (.row v 1 (I64 ls)) + A) fun r m' => r = .tup [] ∧ ∃ X, m' = pt p (.row v 1 (I64 (seg lt ls a b))) + (A + X)

theorem sym_step (hc : Cmp g cap A cf ok) (hcf : ∀ x y, cf x y < 0 ↔ lt x y) (hs : Swo lt) (hn : n ≤ 1000000) (N : Nat) (ih : SymSt lt p v n g cap A ok N) : SymSt lt p v n g cap A ok (N + 1) := by
  intro a m b ls am mb bl hN sl sr hok hl S mf hS
  refine slices_symMergeCmpFunc_int__ok.out rfl ?_ (by simp [slices_symMergeCmpFunc_int__fi])
  unfold vcFun slices_symMergeCmpFunc_int__fi
  dsimp only
  unfold slices_symMergeCmpFunc_int__c
  dsimp only [argF]
  repeat (with_reducible first | refine c_seq ?_ | refine on_n ?_ | refine c_skip ?_ | refine c_block ?_ | refine on_r ?_ | refine c_ret ?_ | refine c_exit ?_ | refine on_e ?_ | refine ob_e ?_ | refine ob_n ?_ | refine ob_r ?_ | refine ob_x rfl ?_)
  refine c_ops ?_
  refine r_op (o_mov (s_no ?_))
  try dsimp only [putF, rd, Frame.get]
  refine r_op (o_mov (s_no ?_))
  try dsimp only [putF, rd, Frame.get]
  refine r_op (o_bin rfl (by first | trivial | (unfold inI64; omega)) (s_no ?_))
  try dsimp only [putF, rd, Frame.get]
  refine r_op (o_bin rfl (by first | trivial | (unfold inI64; omega)) (s_no ?_))
  try dsimp only [putF, rd, Frame.get]
  refine r_nil (c_keep ?_)
  try dsimp only [List.map]
  try dsimp only [putF, rd, Frame.get]
  repeat (with_reducible first | refine c_seq ?_ | refine on_n ?_ | refine c_skip ?_ | refine c_block ?_ | refine on_r ?_ | refine c_ret ?_ | refine c_exit ?_ | refine on_e ?_ | refine ob_e ?_ | refine ob_n ?_ | refine ob_r ?_ | refine ob_x rfl ?_)
  refine c_dec rfl (fun h1 => ?_) (fun h1 => ?_)
  · obtain rfl : m = a + 1 := by omega
    have ea : ((a + 1 : Nat) : Int) = (a : Int) + 1 := by omega
    repeat (with_reducible first | refine c_seq ?_ | refine on_n ?_ | refine c_skip ?_ | refine c_block ?_ | refine on_r ?_ | refine c_ret ?_ | refine c_exit ?_ | refine on_e ?_ | refine ob_e ?_ | refine ob_n ?_ | refine ob_r ?_ | refine ob_x rfl ?_)
    refine c_ops ?_
    refine r_op (o_mov (s_no ?_))
    try dsimp only [putF, rd, Frame.get]
    refine r_op (o_mov (s_no ?_))
    try dsimp only [putF, rd, Frame.get]
    refine r_nil (c_keep ?_)
    try dsimp only [List.map]
    try dsimp only [putF, rd, Frame.get]
    repeat (with_reducible first | refine c_seq ?_ | refine on_n ?_ | refine c_skip ?_ | refine c_block ?_ | refine on_r ?_ | refine c_ret ?_ | refine c_exit ?_ | refine on_e ?_ | refine ob_e ?_ | refine ob_n ?_ | refine ob_r ?_ | refine ob_x rfl ?_)
    refine c_ops ?_
    refine r_op (o_mov (s_no ?_))
    try dsimp only [putF, rd, Frame.get]
    refine r_op (o_mov (s_no ?_))
    try dsimp only [putF, rd, Frame.get]
    refine r_nil (c_keep ?_)
    try dsimp only [List.map]
    try dsimp only [putF, rd, Frame.get]
    repeat (with_reducible first | refine c_seq ?_ | refine on_n ?_ | refine c_skip ?_ | refine c_block ?_ | refine on_r ?_ | refine c_ret ?_ | refine c_exit ?_ | refine on_e ?_ | refine ob_e ?_ | refine ob_n ?_ | refine ob_r ?_ | refine ob_x rfl ?_)
    refine c_loop (fun k xs S => ∃ (i j : Nat) (X : HM), xs = [.int .i64 (i : Int), .int .i64 (j : Int)] ∧ a + 1 ≤ i ∧ i ≤ j ∧ j ≤ b ∧ k = j - i ∧ (∀ q : Int, (a : Int) + 1 ≤ q → q < i → lt (gt ls q) (gt ls (a : Int))) ∧ (∀ q : Int, (j : Int) ≤ q → q < b → ¬ lt (gt ls q) (gt ls (a : Int))) ∧ Has S (pt p (.row v 1 (I64 ls)) + (A + (X + mf)))) (b - (a + 1)) ⟨a + 1, b, HM.nil, rfl, Nat.le_refl _, by omega, Nat.le_refl _, rfl, fun q _ _ => by omega, fun q _ _ => by omega, hS.eq (by rw [HM.nil_add]; ac_rfl)⟩ ?_
    clear hS
    rintro k xs S hl' ⟨i, j, X, rfl, i0, ij, jb, rfl, lo, hi, hS⟩
    dsimp only [zipF, List.map, Frame.get]
    repeat (with_reducible first | refine c_seq ?_ | refine on_n ?_ | refine c_skip ?_ | refine c_block ?_ | refine on_r ?_ | refine c_ret ?_ | refine c_exit ?_ | refine on_e ?_ | refine ob_e ?_ | refine ob_n ?_ | refine ob_r ?_ | refine ob_x rfl ?_)
    refine c_ops ?_
    refine r_op (o_mov (s_no ?_))
    try dsimp only [putF, rd, Frame.get]
    refine r_op (o_mov (s_no ?_))
    try dsimp only [putF, rd, Frame.get]
    refine r_op (o_bin rfl (by first | trivial | (unfold inI64; omega)) (s_no ?_))
    try dsimp only [putF, rd, Frame.get]
    refine r_nil (c_keep ?_)
    try dsimp only [List.map]
    try dsimp only [putF, rd, Frame.get]
    repeat (with_reducible first | refine c_seq ?_ | refine on_n ?_ | refine c_skip ?_ | refine c_block ?_ | refine on_r ?_ | refine c_ret ?_ | refine c_exit ?_ | refine on_e ?_ | refine ob_e ?_ | refine ob_n ?_ | refine ob_r ?_ | refine ob_x rfl ?_)
    refine c_dec rfl (fun hx => ?_) (fun hx => ?_)
    · obtain ⟨h, hh⟩ : ∃ h : Nat, h = (i + j) / 2 := ⟨_, rfl⟩
      have hm : i ≤ h ∧ h < j := by omega
      have he : ((i : Int) + (j : Int)) / 2 = (h : Int) := by omega
      clear hh
      have t1 := ints_at (d := ls) (k := h) (by omega)
      have t2 := ints_at (d := ls) (k := a) (by omega)
      repeat (with_reducible first | refine c_seq ?_ | refine on_n ?_ | refine c_skip ?_ | refine c_block ?_ | refine on_r ?_ | refine c_ret ?_ | refine c_exit ?_ | refine on_e ?_ | refine ob_e ?_ | refine ob_n ?_ | refine ob_r ?_ | refine ob_x rfl ?_)
      refine c_ops ?_
      refine r_op (o_mov (s_no ?_))
      try dsimp only [putF, rd, Frame.get]
      refine r_op (o_mov (s_no ?_))
      try dsimp only [putF, rd, Frame.get]
      refine r_op (o_bin rfl (by first | trivial | (unfold inI64; omega)) (s_no ?_))
      try dsimp only [putF, rd, Frame.get]
      refine r_op (o_conv rfl (by first | trivial | (simp only [wMkF, inI64]; omega)) (s_no ?_))
      try dsimp only [putF, rd, Frame.get]
      refine r_op ?_
      refine o_shr rfl rfl (by decide) ?_; rw [half_u64 (by omega) (by omega), he]
      refine s_no ?_
      try dsimp only [putF, rd, Frame.get]
      refine r_op (o_conv rfl (by first | trivial | (simp only [wMkF, inI64]; omega)) (s_no ?_))
      try dsimp only [putF, rd, Frame.get]
      refine r_op (o_mov (s_no ?_))
      try dsimp only [putF, rd, Frame.get]
      refine r_nil (c_keep ?_)
      try dsimp only [List.map]
      try dsimp only [putF, rd, Frame.get]
      repeat (with_reducible first | refine c_seq ?_ | refine on_n ?_ | refine c_skip ?_ | refine c_block ?_ | refine on_r ?_ | refine c_ret ?_ | refine c_exit ?_ | refine on_e ?_ | refine ob_e ?_ | refine ob_n ?_ | refine ob_r ?_ | refine ob_x rfl ?_)
      refine c_opsD0 hS fun S hS => ?_
      refine d_zero ?_
      refine r_op (o_mov (s_no ?_))
      try dsimp only [putF, rd, Frame.get]
      refine r_op (o_mov (s_no ?_))
      try dsimp only [putF, rd, Frame.get]
      refine r_op (o_mov (s_no ?_))
      try dsimp only [putF, rd, Frame.get]
      first | refine r_op (o_iaddr hS rfl rfl rfl (by omega) (s_no ?_)) | refine r_op (o_iaddrR rfl rfl (by omega) (by assumption) (s_no ?_)) | refine r_op (o_iaddrA rfl rfl (by omega) (s_no ?_)) | refine r_op (o_iaddrAR rfl rfl (by omega) (s_no ?_))
      try dsimp only [putF, rd, Frame.get]
      try simp only [Nat.zero_mul, Nat.mul_zero, Nat.mul_one, Nat.add_zero, Nat.zero_add, Nat.sub_zero, Nat.reduceAdd, Nat.reduceMul]
      first | refine r_op (o_load hS rfl rfl rfl rfl (s_no ?_)) | refine r_op (o_load hS rfl rfl (by assumption) rfl (s_no ?_)) | refine r_op (o_loadR rfl rfl rfl (s_no ?_)) | refine r_op (o_loadR rfl (by assumption) rfl (s_no ?_))
      try dsimp only [putF, rd, Frame.get]
      refine r_op (o_mov (s_no ?_))
      try dsimp only [putF, rd, Frame.get]
      refine r_op (o_mov (s_no ?_))
      try dsimp only [putF, rd, Frame.get]
      first | refine r_op (o_iaddr hS rfl rfl rfl (by omega) (s_no ?_)) | refine r_op (o_iaddrR rfl rfl (by omega) (by assumption) (s_no ?_)) | refine r_op (o_iaddrA rfl rfl (by omega) (s_no ?_)) | refine r_op (o_iaddrAR rfl rfl (by omega) (s_no ?_))
      try dsimp only [putF, rd, Frame.get]
      try simp only [Nat.zero_mul, Nat.mul_zero, Nat.mul_one, Nat.add_zero, Nat.zero_add, Nat.sub_zero, Nat.reduceAdd, Nat.reduceMul]
      first | refine r_op (o_load hS rfl rfl rfl rfl (s_no ?_)) | refine r_op (o_load hS rfl rfl (by assumption) rfl (s_no ?_)) | refine r_op (o_loadR rfl rfl rfl (s_no ?_)) | refine r_op (o_loadR rfl (by assumption) rfl (s_no ?_))
      try dsimp only [putF, rd, Frame.get]
      refine r_op ?_
      refine o_callv rfl ?_; dsimp only [List.map, putF, rd, Frame.get]; refine HC.use (hc _ _ (hok _ (gt_mem (l := ls) (i := ((h : Nat) : Int)) (by omega) (by omega))) (hok _ (gt_mem (l := ls) (i := ((a : Nat) : Int)) (by omega) (by omega)))) hS ?_; rintro r' m' S ⟨rfl, X', rfl⟩ hS
      refine s_no ?_
      try dsimp only [putF, rd, Frame.get]
      refine r_op (o_bin rfl (by first | trivial | (unfold inI64; omega)) (s_no ?_))
      try dsimp only [putF, rd, Frame.get]
      refine r_nil (c_keep ?_)
      try dsimp only [List.map]
      try dsimp only [putF, rd, Frame.get]
      repeat (with_reducible first | refine c_seq ?_ | refine on_n ?_ | refine c_skip ?_ | refine c_block ?_ | refine on_r ?_ | refine c_ret ?_ | refine c_exit ?_ | refine on_e ?_ | refine ob_e ?_ | refine ob_n ?_ | refine ob_r ?_ | refine ob_x rfl ?_)
      refine c_dec rfl (fun c => ?_) (fun c => ?_)
      · have c := (hcf _ _).1 c
        repeat (with_reducible first | refine c_seq ?_ | refine on_n ?_ | refine c_skip ?_ | refine c_block ?_ | refine on_r ?_ | refine c_ret ?_ | refine c_exit ?_ | refine on_e ?_ | refine ob_e ?_ | refine ob_n ?_ | refine ob_r ?_ | refine ob_x rfl ?_)
        refine c_ops ?_
        refine r_op (o_mov (s_no ?_))
        try dsimp only [putF, rd, Frame.get]
        refine r_op (o_bin rfl (by first | trivial | (unfold inI64; omega)) (s_no ?_))
        try dsimp only [putF, rd, Frame.get]
        refine r_op (o_mov (s_no ?_))
        try dsimp only [putF, rd, Frame.get]
        refine r_nil (c_keep ?_)
        try dsimp only [List.map]
        try dsimp only [putF, rd, Frame.get]
        repeat (with_reducible first | refine c_seq ?_ | refine on_n ?_ | refine c_skip ?_ | refine c_block ?_ | refine on_r ?_ | refine c_ret ?_ | refine c_exit ?_ | refine on_e ?_ | refine ob_e ?_ | refine ob_n ?_ | refine ob_r ?_ | refine ob_x rfl ?_)
        refine ⟨j - (h + 1), by omega, h + 1, j, X' + X, rfl, by omega, by omega, jb, rfl, fun q q0 q1 => ?_, hi, hS.eq (by ac_rfl)⟩
        by_cases e : q = h
        · rw [e]; exact c
        · exact Classical.not_not.1 fun w => hs.ntrans _ _ _ (sr q h (by omega) (by omega) (by omega)) w c
      · have c : ¬ lt (gt ls (h : Int)) (gt ls (a : Int)) := fun q => c ((hcf _ _).2 q)
        repeat (with_reducible first | refine c_seq ?_ | refine on_n ?_ | refine c_skip ?_ | refine c_block ?_ | refine on_r ?_ | refine c_ret ?_ | refine c_exit ?_ | refine on_e ?_ | refine ob_e ?_ | refine ob_n ?_ | refine ob_r ?_ | refine ob_x rfl ?_)
        refine c_ops ?_
        refine r_op (o_mov (s_no ?_))
        try dsimp only [putF, rd, Frame.get]
        refine r_op (o_mov (s_no ?_))
        try dsimp only [putF, rd, Frame.get]
        refine r_nil (c_keep ?_)
        try dsimp only [List.map]
        try dsimp only [putF, rd, Frame.get]
        repeat (with_reducible first | refine c_seq ?_ | refine on_n ?_ | refine c_skip ?_ | refine c_block ?_ | refine on_r ?_ | refine c_ret ?_ | refine c_exit ?_ | refine on_e ?_ | refine ob_e ?_ | refine ob_n ?_ | refine ob_r ?_ | refine ob_x rfl ?_)
        refine ⟨h - i, by omega, i, h, X' + X, rfl, i0, by omega, by omega, rfl, lo, fun q q0 q1 => ?_, hS.eq (by ac_rfl)⟩
        by_cases e : q = h
        · rw [e]; exact c
        · exact hs.ntrans _ _ _ (sr h q (by omega) (by omega) q1) c
    · obtain rfl : i = j := by omega
      repeat (with_reducible first | refine c_seq ?_ | refine on_n ?_ | refine c_skip ?_ | refine c_block ?_ | refine on_r ?_ | refine c_ret ?_ | refine c_exit ?_ | refine on_e ?_ | refine ob_e ?_ | refine ob_n ?_ | refine ob_r ?_ | refine ob_x rfl ?_)
      refine c_ops ?_
      refine r_op (o_mov (s_no ?_))
      try dsimp only [putF, rd, Frame.get]
      refine r_op (o_mov (s_no ?_))
      try dsimp only [putF, rd, Frame.get]
      refine r_nil (c_keep ?_)
      try dsimp only [List.map]
      try dsimp only [putF, rd, Frame.get]
      repeat (with_reducible first | refine c_seq ?_ | refine on_n ?_ | refine c_skip ?_ | refine c_block ?_ | refine on_r ?_ | refine c_ret ?_ | refine c_exit ?_ | refine on_e ?_ | refine ob_e ?_ | refine ob_n ?_ | refine ob_r ?_ | refine ob_x rfl ?_)
      refine c_loop (fun z xs S => ∃ (k : Nat) (d : List Int), xs = [.int .i64 (k : Int)] ∧ a ≤ k ∧ k ≤ i - 1 ∧ z = i - k ∧ Part lt ls d a b ∧ ShL ls d a k ∧ Has S (pt p (.row v 1 (I64 d)) + (A + (X + mf)))) (i - a) ⟨a, ls, rfl, Nat.le_refl _, by omega, rfl, .refl _ _ _, ⟨rfl, rfl, fun p _ _ => by omega, fun p _ _ => rfl⟩, hS⟩ ?_
      clear hS
      rintro z xs S hl2 ⟨k, d, rfl, k0, k1, hz, hp, hh, hS⟩
      dsimp only [zipF, List.map, Frame.get]
      have dl := hp.len
      repeat (with_reducible first | refine c_seq ?_ | refine on_n ?_ | refine c_skip ?_ | refine c_block ?_ | refine on_r ?_ | refine c_ret ?_ | refine c_exit ?_ | refine on_e ?_ | refine ob_e ?_ | refine ob_n ?_ | refine ob_r ?_ | refine ob_x rfl ?_)
      refine c_ops ?_
      refine r_op (o_mov (s_no ?_))
      try dsimp only [putF, rd, Frame.get]
      refine r_op (o_mov (s_no ?_))
      try dsimp only [putF, rd, Frame.get]
      refine r_op (o_bin rfl (by first | trivial | (unfold inI64; omega)) (s_no ?_))
      try dsimp only [putF, rd, Frame.get]
      refine r_op (o_bin rfl (by first | trivial | (unfold inI64; omega)) (s_no ?_))
      try dsimp only [putF, rd, Frame.get]
      refine r_nil (c_keep ?_)
      try dsimp only [List.map]
      try dsimp only [putF, rd, Frame.get]
      repeat (with_reducible first | refine c_seq ?_ | refine on_n ?_ | refine c_skip ?_ | refine c_block ?_ | refine on_r ?_ | refine c_ret ?_ | refine c_exit ?_ | refine on_e ?_ | refine ob_e ?_ | refine ob_n ?_ | refine ob_r ?_ | refine ob_x rfl ?_)
      refine c_dec rfl (fun hk => ?_) (fun hk => ?_)
      · have q : lt (gt d ((k : Int) + 1)) (gt d ((k : Int) + 1 - 1)) := by
          rw [show (k : Int) + 1 - 1 = k by omega, hh.at_, hh.hi _ (by omega) (by omega)]
          exact lo _ (by omega) (by omega)
        have p2 := swp_part hs hp (by omega) (show (a : Int) < (k : Int) + 1 by omega) (by omega) (by omega) q
        rw [show (k : Int) + 1 - 1 = k by omega, swpL_comm (by omega) (by omega) (by omega) (by omega)] at p2
        have t1 := ints_at (d := d) (k := k + 1) (by omega)
        have t2 := ints_at (d := d) (k := k) (by omega)
        repeat (with_reducible first | refine c_seq ?_ | refine on_n ?_ | refine c_skip ?_ | refine c_block ?_ | refine on_r ?_ | refine c_ret ?_ | refine c_exit ?_ | refine on_e ?_ | refine ob_e ?_ | refine ob_n ?_ | refine ob_r ?_ | refine ob_x rfl ?_)
        refine c_opsD0 hS fun S hS => ?_
        refine d_zero ?_
        refine r_op (o_mov (s_no ?_))
        try dsimp only [putF, rd, Frame.get]
        refine r_op (o_mov (s_no ?_))
        try dsimp only [putF, rd, Frame.get]
        refine r_op (o_mov (s_no ?_))
        try dsimp only [putF, rd, Frame.get]
        refine r_op (o_mov (s_no ?_))
        try dsimp only [putF, rd, Frame.get]
        refine r_op ?_
        refine o_bin rfl (by unfold inI64; omega) ?_; rw [show (k : Int) + 1 = ((k + 1 : Nat) : Int) by omega]
        refine s_no ?_
        try dsimp only [putF, rd, Frame.get]
        refine r_op (o_mov (s_no ?_))
        try dsimp only [putF, rd, Frame.get]
        refine r_op (o_mov (s_no ?_))
        try dsimp only [putF, rd, Frame.get]
        refine r_op ?_
        refine o_bin rfl (by unfold inI64; omega) ?_; rw [show (k : Int) + 1 = ((k + 1 : Nat) : Int) by omega]
        refine s_no ?_
        try dsimp only [putF, rd, Frame.get]
        first | refine r_op (o_iaddr hS rfl rfl rfl (by omega) (s_no ?_)) | refine r_op (o_iaddrR rfl rfl (by omega) (by assumption) (s_no ?_)) | refine r_op (o_iaddrA rfl rfl (by omega) (s_no ?_)) | refine r_op (o_iaddrAR rfl rfl (by omega) (s_no ?_))
        try dsimp only [putF, rd, Frame.get]
        try simp only [Nat.zero_mul, Nat.mul_zero, Nat.mul_one, Nat.add_zero, Nat.zero_add, Nat.sub_zero, Nat.reduceAdd, Nat.reduceMul]
        first | refine r_op (o_load hS rfl rfl rfl rfl (s_no ?_)) | refine r_op (o_load hS rfl rfl (by assumption) rfl (s_no ?_)) | refine r_op (o_loadR rfl rfl rfl (s_no ?_)) | refine r_op (o_loadR rfl (by assumption) rfl (s_no ?_))
        try dsimp only [putF, rd, Frame.get]
        refine r_op (o_mov (s_no ?_))
        try dsimp only [putF, rd, Frame.get]
        refine r_op (o_mov (s_no ?_))
        try dsimp only [putF, rd, Frame.get]
        first | refine r_op (o_iaddr hS rfl rfl rfl (by omega) (s_no ?_)) | refine r_op (o_iaddrR rfl rfl (by omega) (by assumption) (s_no ?_)) | refine r_op (o_iaddrA rfl rfl (by omega) (s_no ?_)) | refine r_op (o_iaddrAR rfl rfl (by omega) (s_no ?_))
        try dsimp only [putF, rd, Frame.get]
        try simp only [Nat.zero_mul, Nat.mul_zero, Nat.mul_one, Nat.add_zero, Nat.zero_add, Nat.sub_zero, Nat.reduceAdd, Nat.reduceMul]
        first | refine r_op (o_load hS rfl rfl rfl rfl (s_no ?_)) | refine r_op (o_load hS rfl rfl (by assumption) rfl (s_no ?_)) | refine r_op (o_loadR rfl rfl rfl (s_no ?_)) | refine r_op (o_loadR rfl (by assumption) rfl (s_no ?_))
        try dsimp only [putF, rd, Frame.get]
        first | refine r_op (o_iaddr hS rfl rfl rfl (by omega) (s_no ?_)) | refine r_op (o_iaddrR rfl rfl (by omega) (by assumption) (s_no ?_)) | refine r_op (o_iaddrA rfl rfl (by omega) (s_no ?_)) | refine r_op (o_iaddrAR rfl rfl (by omega) (s_no ?_))
        try dsimp only [putF, rd, Frame.get]
        try simp only [Nat.zero_mul, Nat.mul_zero, Nat.mul_one, Nat.add_zero, Nat.zero_add, Nat.sub_zero, Nat.reduceAdd, Nat.reduceMul]
        refine r_op ?_
        refine o_store hS rfl rfl rfl rfl (by simp; omega) fun S hS => ?_; (try dsimp only [putF, rd, Frame.get] at hS); rw [ints_set (by omega)] at hS
        refine s_no ?_
        try dsimp only [putF, rd, Frame.get]
        first | refine r_op (o_iaddr hS rfl rfl rfl (by omega) (s_no ?_)) | refine r_op (o_iaddrR rfl rfl (by omega) (by assumption) (s_no ?_)) | refine r_op (o_iaddrA rfl rfl (by omega) (s_no ?_)) | refine r_op (o_iaddrAR rfl rfl (by omega) (s_no ?_))
        try dsimp only [putF, rd, Frame.get]
        try simp only [Nat.zero_mul, Nat.mul_zero, Nat.mul_one, Nat.add_zero, Nat.zero_add, Nat.sub_zero, Nat.reduceAdd, Nat.reduceMul]
        refine r_op ?_
        refine o_store hS rfl rfl rfl rfl (by simp; omega) fun S hS => ?_; (try dsimp only [putF, rd, Frame.get] at hS); rw [ints_set (by rw [List.length_set]; omega)] at hS
        refine s_no ?_
        try dsimp only [putF, rd, Frame.get]
        refine r_nil (c_keep ?_)
        try dsimp only [List.map]
        try dsimp only [putF, rd, Frame.get]
        repeat (with_reducible first | refine c_seq ?_ | refine on_n ?_ | refine c_skip ?_ | refine c_block ?_ | refine on_r ?_ | refine c_ret ?_ | refine c_exit ?_ | refine on_e ?_ | refine ob_e ?_ | refine ob_n ?_ | refine ob_r ?_ | refine ob_x rfl ?_)
        refine c_ops ?_
        refine r_op (o_mov (s_no ?_))
        try dsimp only [putF, rd, Frame.get]
        refine r_op ?_
        refine o_bin rfl (by unfold inI64; omega) ?_; rw [show (k : Int) + 1 = ((k + 1 : Nat) : Int) by omega]
        refine s_no ?_
        try dsimp only [putF, rd, Frame.get]
        refine r_op (o_mov (s_no ?_))
        try dsimp only [putF, rd, Frame.get]
        refine r_nil (c_keep ?_)
        try dsimp only [List.map]
        try dsimp only [putF, rd, Frame.get]
        repeat (with_reducible first | refine c_seq ?_ | refine on_n ?_ | refine c_skip ?_ | refine c_block ?_ | refine on_r ?_ | refine c_ret ?_ | refine c_exit ?_ | refine on_e ?_ | refine ob_e ?_ | refine ob_n ?_ | refine ob_r ?_ | refine ob_x rfl ?_)
        refine ⟨i - (k + 1), by omega, k + 1, swpL d k (k + 1), rfl, by omega, by omega, rfl, p2, by rw [show ((k + 1 : Nat) : Int) = (k : Int) + 1 by omega]; exact hh.step (by omega) (by omega) (by omega), ?_⟩
        unfold swpL
        rw [Int.toNat_natCast, show ((k : Int) + 1).toNat = k + 1 by omega, show (k : Int) + 1 = ((k + 1 : Nat) : Int) by omega]
        exact hS
      · have ek : (k : Int) = (i : Int) - 1 := by omega
        repeat (with_reducible first | refine c_seq ?_ | refine on_n ?_ | refine c_skip ?_ | refine c_block ?_ | refine on_r ?_ | refine c_ret ?_ | refine c_exit ?_ | refine on_e ?_ | refine ob_e ?_ | refine ob_n ?_ | refine ob_r ?_ | refine ob_x rfl ?_)
        try dsimp only
        unfold slices_symMergeCmpFunc_int__r
        refine w_nil ?_
        try dsimp only [retV, Frame.get]
        have e := seg_eq hs hp (by rw [ek] at hh; exact hh.srt hs (by omega) (by omega) (by omega) (by omega) (by rw [← ea]; exact sr) lo hi) (by omega) (by omega) (by omega)
        rw [e]
        exact ⟨_, ⟨rfl, X, rfl⟩, hS.eq (by ac_rfl)⟩
  repeat (with_reducible first | refine c_seq ?_ | refine on_n ?_ | refine c_skip ?_ | refine c_block ?_ | refine on_r ?_ | refine c_ret ?_ | refine c_exit ?_ | refine on_e ?_ | refine ob_e ?_ | refine ob_n ?_ | refine ob_r ?_ | refine ob_x rfl ?_)
  refine c_ops ?_
  refine r_op (o_mov (s_no ?_))
  try dsimp only [putF, rd, Frame.get]
  refine r_op (o_mov (s_no ?_))
  try dsimp only [putF, rd, Frame.get]
  refine r_op (o_bin rfl (by first | trivial | (unfold inI64; omega)) (s_no ?_))
  try dsimp only [putF, rd, Frame.get]
  refine r_op (o_bin rfl (by first | trivial | (unfold inI64; omega)) (s_no ?_))
  try dsimp only [putF, rd, Frame.get]
  refine r_nil (c_keep ?_)
  try dsimp only [List.map]
  try dsimp only [putF, rd, Frame.get]
  repeat (with_reducible first | refine c_seq ?_ | refine on_n ?_ | refine c_skip ?_ | refine c_block ?_ | refine on_r ?_ | refine c_ret ?_ | refine c_exit ?_ | refine on_e ?_ | refine ob_e ?_ | refine ob_n ?_ | refine ob_r ?_ | refine ob_x rfl ?_)
  refine c_dec rfl (fun h2 => ?_) (fun h2 => ?_)
  · obtain rfl : b = m + 1 := by omega
    have em : ((m + 1 : Nat) : Int) = (m : Int) + 1 := by omega
    repeat (with_reducible first | refine c_seq ?_ | refine on_n ?_ | refine c_skip ?_ | refine c_block ?_ | refine on_r ?_ | refine c_ret ?_ | refine c_exit ?_ | refine on_e ?_ | refine ob_e ?_ | refine ob_n ?_ | refine ob_r ?_ | refine ob_x rfl ?_)
    refine c_ops ?_
    refine r_op (o_mov (s_no ?_))
    try dsimp only [putF, rd, Frame.get]
    refine r_op (o_mov (s_no ?_))
    try dsimp only [putF, rd, Frame.get]
    refine r_nil (c_keep ?_)
    try dsimp only [List.map]
    try dsimp only [putF, rd, Frame.get]
    repeat (with_reducible first | refine c_seq ?_ | refine on_n ?_ | refine c_skip ?_ | refine c_block ?_ | refine on_r ?_ | refine c_ret ?_ | refine c_exit ?_ | refine on_e ?_ | refine ob_e ?_ | refine ob_n ?_ | refine ob_r ?_ | refine ob_x rfl ?_)
    refine c_ops ?_
    refine r_op (o_mov (s_no ?_))
    try dsimp only [putF, rd, Frame.get]
    refine r_op (o_mov (s_no ?_))
    try dsimp only [putF, rd, Frame.get]
    refine r_nil (c_keep ?_)
    try dsimp only [List.map]
    try dsimp only [putF, rd, Frame.get]
    repeat (with_reducible first | refine c_seq ?_ | refine on_n ?_ | refine c_skip ?_ | refine c_block ?_ | refine on_r ?_ | refine c_ret ?_ | refine c_exit ?_ | refine on_e ?_ | refine ob_e ?_ | refine ob_n ?_ | refine ob_r ?_ | refine ob_x rfl ?_)
    refine c_loop (fun k xs S => ∃ (i j : Nat) (X : HM), xs = [.int .i64 (i : Int), .int .i64 (j : Int)] ∧ a ≤ i ∧ i ≤ j ∧ j ≤ m ∧ k = j - i ∧ (∀ q : Int, (a : Int) ≤ q → q < i → ¬ lt (gt ls (m : Int)) (gt ls q)) ∧ (∀ q : Int, (j : Int) ≤ q → q < m → lt (gt ls (m : Int)) (gt ls q)) ∧ Has S (pt p (.row v 1 (I64 ls)) + (A + (X + mf)))) (m - a) ⟨a, m, HM.nil, rfl, Nat.le_refl _, by omega, Nat.le_refl _, rfl, fun q _ _ => by omega, fun q _ _ => by omega, hS.eq (by rw [HM.nil_add]; ac_rfl)⟩ ?_
    clear hS
    rintro k xs S hl' ⟨i, j, X, rfl, i0, ij, jb, rfl, lo, hi, hS⟩
    dsimp only [zipF, List.map, Frame.get]
    repeat (with_reducible first | refine c_seq ?_ | refine on_n ?_ | refine c_skip ?_ | refine c_block ?_ | refine on_r ?_ | refine c_ret ?_ | refine c_exit ?_ | refine on_e ?_ | refine ob_e ?_ | refine ob_n ?_ | refine ob_r ?_ | refine ob_x rfl ?_)
    refine c_ops ?_
    refine r_op (o_mov (s_no ?_))
    try dsimp only [putF, rd, Frame.get]
    refine r_op (o_mov (s_no ?_))
    try dsimp only [putF, rd, Frame.get]
    refine r_op (o_bin rfl (by first | trivial | (unfold inI64; omega)) (s_no ?_))
    try dsimp only [putF, rd, Frame.get]
    refine r_nil (c_keep ?_)
    try dsimp only [List.map]
    try dsimp only [putF, rd, Frame.get]
    repeat (with_reducible first | refine c_seq ?_ | refine on_n ?_ | refine c_skip ?_ | refine c_block ?_ | refine on_r ?_ | refine c_ret ?_ | refine c_exit ?_ | refine on_e ?_ | refine ob_e ?_ | refine ob_n ?_ | refine ob_r ?_ | refine ob_x rfl ?_)
    refine c_dec rfl (fun hx => ?_) (fun hx => ?_)
    · obtain ⟨h, hh⟩ : ∃ h : Nat, h = (i + j) / 2 := ⟨_, rfl⟩
      have hm : i ≤ h ∧ h < j := by omega
      have he : ((i : Int) + (j : Int)) / 2 = (h : Int) := by omega
      clear hh
      have t1 := ints_at (d := ls) (k := m) (by omega)
      have t2 := ints_at (d := ls) (k := h) (by omega)
      repeat (with_reducible first | refine c_seq ?_ | refine on_n ?_ | refine c_skip ?_ | refine c_block ?_ | refine on_r ?_ | refine c_ret ?_ | refine c_exit ?_ | refine on_e ?_ | refine ob_e ?_ | refine ob_n ?_ | refine ob_r ?_ | refine ob_x rfl ?_)
      refine c_ops ?_
      refine r_op (o_mov (s_no ?_))
      try dsimp only [putF, rd, Frame.get]
      refine r_op (o_mov (s_no ?_))
      try dsimp only [putF, rd, Frame.get]
      refine r_op (o_bin rfl (by first | trivial | (unfold inI64; omega)) (s_no ?_))
      try dsimp only [putF, rd, Frame.get]
      refine r_op (o_conv rfl (by first | trivial | (simp only [wMkF, inI64]; omega)) (s_no ?_))
      try dsimp only [putF, rd, Frame.get]
      refine r_op ?_
      refine o_shr rfl rfl (by decide) ?_; rw [half_u64 (by omega) (by omega), he]
      refine s_no ?_
      try dsimp only [putF, rd, Frame.get]
      refine r_op (o_conv rfl (by first | trivial | (simp only [wMkF, inI64]; omega)) (s_no ?_))
      try dsimp only [putF, rd, Frame.get]
      refine r_op (o_mov (s_no ?_))
      try dsimp only [putF, rd, Frame.get]
      refine r_nil (c_keep ?_)
      try dsimp only [List.map]
      try dsimp only [putF, rd, Frame.get]
      repeat (with_reducible first | refine c_seq ?_ | refine on_n ?_ | refine c_skip ?_ | refine c_block ?_ | refine on_r ?_ | refine c_ret ?_ | refine c_exit ?_ | refine on_e ?_ | refine ob_e ?_ | refine ob_n ?_ | refine ob_r ?_ | refine ob_x rfl ?_)
      refine c_opsD0 hS fun S hS => ?_
      refine d_zero ?_
      refine r_op (o_mov (s_no ?_))
      try dsimp only [putF, rd, Frame.get]
      refine r_op (o_mov (s_no ?_))
      try dsimp only [putF, rd, Frame.get]
      refine r_op (o_mov (s_no ?_))
      try dsimp only [putF, rd, Frame.get]
      first | refine r_op (o_iaddr hS rfl rfl rfl (by omega) (s_no ?_)) | refine r_op (o_iaddrR rfl rfl (by omega) (by assumption) (s_no ?_)) | refine r_op (o_iaddrA rfl rfl (by omega) (s_no ?_)) | refine r_op (o_iaddrAR rfl rfl (by omega) (s_no ?_))
      try dsimp only [putF, rd, Frame.get]
      try simp only [Nat.zero_mul, Nat.mul_zero, Nat.mul_one, Nat.add_zero, Nat.zero_add, Nat.sub_zero, Nat.reduceAdd, Nat.reduceMul]
      first | refine r_op (o_load hS rfl rfl rfl rfl (s_no ?_)) | refine r_op (o_load hS rfl rfl (by assumption) rfl (s_no ?_)) | refine r_op (o_loadR rfl rfl rfl (s_no ?_)) | refine r_op (o_loadR rfl (by assumption) rfl (s_no ?_))
      try dsimp only [putF, rd, Frame.get]
      refine r_op (o_mov (s_no ?_))
      try dsimp only [putF, rd, Frame.get]
      refine r_op (o_mov (s_no ?_))
      try dsimp only [putF, rd, Frame.get]
      first | refine r_op (o_iaddr hS rfl rfl rfl (by omega) (s_no ?_)) | refine r_op (o_iaddrR rfl rfl (by omega) (by assumption) (s_no ?_)) | refine r_op (o_iaddrA rfl rfl (by omega) (s_no ?_)) | refine r_op (o_iaddrAR rfl rfl (by omega) (s_no ?_))
      try dsimp only [putF, rd, Frame.get]
      try simp only [Nat.zero_mul, Nat.mul_zero, Nat.mul_one, Nat.add_zero, Nat.zero_add, Nat.sub_zero, Nat.reduceAdd, Nat.reduceMul]
      first | refine r_op (o_load hS rfl rfl rfl rfl (s_no ?_)) | refine r_op (o_load hS rfl rfl (by assumption) rfl (s_no ?_)) | refine r_op (o_loadR rfl rfl rfl (s_no ?_)) | refine r_op (o_loadR rfl (by assumption) rfl (s_no ?_))
      try dsimp only [putF, rd, Frame.get]
      refine r_op ?_
      refine o_callv rfl ?_; dsimp only [List.map, putF, rd, Frame.get]; refine HC.use (hc _ _ (hok _ (gt_mem (l := ls) (i := ((m : Nat) : Int)) (by omega) (by omega))) (hok _ (gt_mem (l := ls) (i := ((h : Nat) : Int)) (by omega) (by omega)))) hS ?_; rintro r' m' S ⟨rfl, X', rfl⟩ hS
      refine s_no ?_
      try dsimp only [putF, rd, Frame.get]
      refine r_op (o_bin rfl (by first | trivial | (unfold inI64; omega)) (s_no ?_))
      try dsimp only [putF, rd, Frame.get]
      refine r_op (o_not rfl (s_no ?_))
      try dsimp only [putF, rd, Frame.get]
      refine r_nil (c_keep ?_)
      try dsimp only [List.map]
      try dsimp only [putF, rd, Frame.get]
      repeat (with_reducible first | refine c_seq ?_ | refine on_n ?_ | refine c_skip ?_ | refine c_block ?_ | refine on_r ?_ | refine c_ret ?_ | refine c_exit ?_ | refine on_e ?_ | refine ob_e ?_ | refine ob_n ?_ | refine ob_r ?_ | refine ob_x rfl ?_)
      refine c_ndec rfl (fun c => ?_) (fun c => ?_)
      · have c : ¬ lt (gt ls (m : Int)) (gt ls (h : Int)) := fun q => c ((hcf _ _).2 q)
        repeat (with_reducible first | refine c_seq ?_ | refine on_n ?_ | refine c_skip ?_ | refine c_block ?_ | refine on_r ?_ | refine c_ret ?_ | refine c_exit ?_ | refine on_e ?_ | refine ob_e ?_ | refine ob_n ?_ | refine ob_r ?_ | refine ob_x rfl ?_)
        refine c_ops ?_
        refine r_op (o_mov (s_no ?_))
        try dsimp only [putF, rd, Frame.get]
        refine r_op (o_bin rfl (by first | trivial | (unfold inI64; omega)) (s_no ?_))
        try dsimp only [putF, rd, Frame.get]
        refine r_op (o_mov (s_no ?_))
        try dsimp only [putF, rd, Frame.get]
        refine r_nil (c_keep ?_)
        try dsimp only [List.map]
        try dsimp only [putF, rd, Frame.get]
        repeat (with_reducible first | refine c_seq ?_ | refine on_n ?_ | refine c_skip ?_ | refine c_block ?_ | refine on_r ?_ | refine c_ret ?_ | refine c_exit ?_ | refine on_e ?_ | refine ob_e ?_ | refine ob_n ?_ | refine ob_r ?_ | refine ob_x rfl ?_)
        refine ⟨j - (h + 1), by omega, h + 1, j, X' + X, rfl, by omega, by omega, jb, rfl, fun q q0 q1 => ?_, hi, hS.eq (by ac_rfl)⟩
        by_cases e : q = h
        · rw [e]; exact c
        · exact hs.ntrans _ _ _ c (sl q h q0 (by omega) (by omega))
      · have c := (hcf _ _).1 c
        repeat (with_reducible first | refine c_seq ?_ | refine on_n ?_ | refine c_skip ?_ | refine c_block ?_ | refine on_r ?_ | refine c_ret ?_ | refine c_exit ?_ | refine on_e ?_ | refine ob_e ?_ | refine ob_n ?_ | refine ob_r ?_ | refine ob_x rfl ?_)
        refine c_ops ?_
        refine r_op (o_mov (s_no ?_))
        try dsimp only [putF, rd, Frame.get]
        refine r_op (o_mov (s_no ?_))
        try dsimp only [putF, rd, Frame.get]
        refine r_nil (c_keep ?_)
        try dsimp only [List.map]
        try dsimp only [putF, rd, Frame.get]
        repeat (with_reducible first | refine c_seq ?_ | refine on_n ?_ | refine c_skip ?_ | refine c_block ?_ | refine on_r ?_ | refine c_ret ?_ | refine c_exit ?_ | refine on_e ?_ | refine ob_e ?_ | refine ob_n ?_ | refine ob_r ?_ | refine ob_x rfl ?_)
        refine ⟨h - i, by omega, i, h, X' + X, rfl, i0, by omega, by omega, rfl, lo, fun q q0 q1 => ?_, hS.eq (by ac_rfl)⟩
        by_cases e : q = h
        · rw [e]; exact c
        · exact Classical.not_not.1 fun w => hs.ntrans _ _ _ w (sl h q (by omega) (by omega) q1) c
    · obtain rfl : i = j := by omega
      repeat (with_reducible first | refine c_seq ?_ | refine on_n ?_ | refine c_skip ?_ | refine c_block ?_ | refine on_r ?_ | refine c_ret ?_ | refine c_exit ?_ | refine on_e ?_ | refine ob_e ?_ | refine ob_n ?_ | refine ob_r ?_ | refine ob_x rfl ?_)
      refine c_ops ?_
      refine r_op (o_mov (s_no ?_))
      try dsimp only [putF, rd, Frame.get]
      refine r_op (o_mov (s_no ?_))
      try dsimp only [putF, rd, Frame.get]
      refine r_nil (c_keep ?_)
      try dsimp only [List.map]
      try dsimp only [putF, rd, Frame.get]
      repeat (with_reducible first | refine c_seq ?_ | refine on_n ?_ | refine c_skip ?_ | refine c_block ?_ | refine on_r ?_ | refine c_ret ?_ | refine c_exit ?_ | refine on_e ?_ | refine ob_e ?_ | refine ob_n ?_ | refine ob_r ?_ | refine ob_x rfl ?_)
      refine c_loop (fun z xs S => ∃ (k : Nat) (d : List Int), xs = [.int .i64 (k : Int)] ∧ i ≤ k ∧ k ≤ m ∧ z = k ∧ Part lt ls d a ((m : Int) + 1) ∧ ShR ls d m k ∧ Has S (pt p (.row v 1 (I64 d)) + (A + (X + mf)))) m ⟨m, ls, rfl, by omega, Nat.le_refl _, rfl, .refl _ _ _, ⟨rfl, rfl, fun p _ _ => rfl, fun p _ _ => by omega⟩, hS⟩ ?_
      clear hS
      rintro z xs S hl2 ⟨k, d, rfl, k0, k1, hz, hp, hh, hS⟩
      dsimp only [zipF, List.map, Frame.get]
      have dl := hp.len
      repeat (with_reducible first | refine c_seq ?_ | refine on_n ?_ | refine c_skip ?_ | refine c_block ?_ | refine on_r ?_ | refine c_ret ?_ | refine c_exit ?_ | refine on_e ?_ | refine ob_e ?_ | refine ob_n ?_ | refine ob_r ?_ | refine ob_x rfl ?_)
      refine c_ops ?_
      refine r_op (o_mov (s_no ?_))
      try dsimp only [putF, rd, Frame.get]
      refine r_op (o_mov (s_no ?_))
      try dsimp only [putF, rd, Frame.get]
      refine r_op (o_bin rfl (by first | trivial | (unfold inI64; omega)) (s_no ?_))
      try dsimp only [putF, rd, Frame.get]
      refine r_nil (c_keep ?_)
      try dsimp only [List.map]
      try dsimp only [putF, rd, Frame.get]
      repeat (with_reducible first | refine c_seq ?_ | refine on_n ?_ | refine c_skip ?_ | refine c_block ?_ | refine on_r ?_ | refine c_ret ?_ | refine c_exit ?_ | refine on_e ?_ | refine ob_e ?_ | refine ob_n ?_ | refine ob_r ?_ | refine ob_x rfl ?_)
      refine c_dec rfl (fun hk => ?_) (fun hk => ?_)
      · have q : lt (gt d (k : Int)) (gt d ((k : Int) - 1)) := by
          rw [hh.at_, hh.lo _ (by omega) (by omega)]
          exact hi _ (by omega) (by omega)
        have ek : ((k - 1 : Nat) : Int) = (k : Int) - 1 := by omega
        have t1 := ints_at (d := d) (k := k - 1) (by omega)
        have t2 := ints_at (d := d) (k := k) (by omega)
        repeat (with_reducible first | refine c_seq ?_ | refine on_n ?_ | refine c_skip ?_ | refine c_block ?_ | refine on_r ?_ | refine c_ret ?_ | refine c_exit ?_ | refine on_e ?_ | refine ob_e ?_ | refine ob_n ?_ | refine ob_r ?_ | refine ob_x rfl ?_)
        refine c_opsD0 hS fun S hS => ?_
        refine d_zero ?_
        refine r_op (o_mov (s_no ?_))
        try dsimp only [putF, rd, Frame.get]
        refine r_op (o_mov (s_no ?_))
        try dsimp only [putF, rd, Frame.get]
        refine r_op (o_mov (s_no ?_))
        try dsimp only [putF, rd, Frame.get]
        refine r_op (o_mov (s_no ?_))
        try dsimp only [putF, rd, Frame.get]
        refine r_op ?_
        refine o_bin rfl (by unfold inI64; omega) ?_; rw [show (k : Int) - 1 = ((k - 1 : Nat) : Int) by omega]
        refine s_no ?_
        try dsimp only [putF, rd, Frame.get]
        refine r_op (o_mov (s_no ?_))
        try dsimp only [putF, rd, Frame.get]
        refine r_op (o_mov (s_no ?_))
        try dsimp only [putF, rd, Frame.get]
        refine r_op ?_
        refine o_bin rfl (by unfold inI64; omega) ?_; rw [show (k : Int) - 1 = ((k - 1 : Nat) : Int) by omega]
        refine s_no ?_
        try dsimp only [putF, rd, Frame.get]
        first | refine r_op (o_iaddr hS rfl rfl rfl (by omega) (s_no ?_)) | refine r_op (o_iaddrR rfl rfl (by omega) (by assumption) (s_no ?_)) | refine r_op (o_iaddrA rfl rfl (by omega) (s_no ?_)) | refine r_op (o_iaddrAR rfl rfl (by omega) (s_no ?_))
        try dsimp only [putF, rd, Frame.get]
        try simp only [Nat.zero_mul, Nat.mul_zero, Nat.mul_one, Nat.add_zero, Nat.zero_add, Nat.sub_zero, Nat.reduceAdd, Nat.reduceMul]
        first | refine r_op (o_load hS rfl rfl rfl rfl (s_no ?_)) | refine r_op (o_load hS rfl rfl (by assumption) rfl (s_no ?_)) | refine r_op (o_loadR rfl rfl rfl (s_no ?_)) | refine r_op (o_loadR rfl (by assumption) rfl (s_no ?_))
        try dsimp only [putF, rd, Frame.get]
        refine r_op (o_mov (s_no ?_))
        try dsimp only [putF, rd, Frame.get]
        refine r_op (o_mov (s_no ?_))
        try dsimp only [putF, rd, Frame.get]
        first | refine r_op (o_iaddr hS rfl rfl rfl (by omega) (s_no ?_)) | refine r_op (o_iaddrR rfl rfl (by omega) (by assumption) (s_no ?_)) | refine r_op (o_iaddrA rfl rfl (by omega) (s_no ?_)) | refine r_op (o_iaddrAR rfl rfl (by omega) (s_no ?_))
        try dsimp only [putF, rd, Frame.get]
        try simp only [Nat.zero_mul, Nat.mul_zero, Nat.mul_one, Nat.add_zero, Nat.zero_add, Nat.sub_zero, Nat.reduceAdd, Nat.reduceMul]
        first | refine r_op (o_load hS rfl rfl rfl rfl (s_no ?_)) | refine r_op (o_load hS rfl rfl (by assumption) rfl (s_no ?_)) | refine r_op (o_loadR rfl rfl rfl (s_no ?_)) | refine r_op (o_loadR rfl (by assumption) rfl (s_no ?_))
        try dsimp only [putF, rd, Frame.get]
        first | refine r_op (o_iaddr hS rfl rfl rfl (by omega) (s_no ?_)) | refine r_op (o_iaddrR rfl rfl (by omega) (by assumption) (s_no ?_)) | refine r_op (o_iaddrA rfl rfl (by omega) (s_no ?_)) | refine r_op (o_iaddrAR rfl rfl (by omega) (s_no ?_))
        try dsimp only [putF, rd, Frame.get]
        try simp only [Nat.zero_mul, Nat.mul_zero, Nat.mul_one, Nat.add_zero, Nat.zero_add, Nat.sub_zero, Nat.reduceAdd, Nat.reduceMul]
        refine r_op ?_
        refine o_store hS rfl rfl rfl rfl (by simp; omega) fun S hS => ?_; (try dsimp only [putF, rd, Frame.get] at hS); rw [ints_set (by omega)] at hS
        refine s_no ?_
        try dsimp only [putF, rd, Frame.get]
        first | refine r_op (o_iaddr hS rfl rfl rfl (by omega) (s_no ?_)) | refine r_op (o_iaddrR rfl rfl (by omega) (by assumption) (s_no ?_)) | refine r_op (o_iaddrA rfl rfl (by omega) (s_no ?_)) | refine r_op (o_iaddrAR rfl rfl (by omega) (s_no ?_))
        try dsimp only [putF, rd, Frame.get]
        try simp only [Nat.zero_mul, Nat.mul_zero, Nat.mul_one, Nat.add_zero, Nat.zero_add, Nat.sub_zero, Nat.reduceAdd, Nat.reduceMul]
        refine r_op ?_
        refine o_store hS rfl rfl rfl rfl (by simp; omega) fun S hS => ?_; (try dsimp only [putF, rd, Frame.get] at hS); rw [ints_set (by rw [List.length_set]; omega)] at hS
        refine s_no ?_
        try dsimp only [putF, rd, Frame.get]
        refine r_nil (c_keep ?_)
        try dsimp only [List.map]
        try dsimp only [putF, rd, Frame.get]
        repeat (with_reducible first | refine c_seq ?_ | refine on_n ?_ | refine c_skip ?_ | refine c_block ?_ | refine on_r ?_ | refine c_ret ?_ | refine c_exit ?_ | refine on_e ?_ | refine ob_e ?_ | refine ob_n ?_ | refine ob_r ?_ | refine ob_x rfl ?_)
        refine c_ops ?_
        refine r_op (o_mov (s_no ?_))
        try dsimp only [putF, rd, Frame.get]
        refine r_op ?_
        refine o_bin rfl (by unfold inI64; omega) ?_; rw [show (k : Int) - 1 = ((k - 1 : Nat) : Int) by omega]
        refine s_no ?_
        try dsimp only [putF, rd, Frame.get]
        refine r_op (o_mov (s_no ?_))
        try dsimp only [putF, rd, Frame.get]
        refine r_nil (c_keep ?_)
        try dsimp only [List.map]
        try dsimp only [putF, rd, Frame.get]
        repeat (with_reducible first | refine c_seq ?_ | refine on_n ?_ | refine c_skip ?_ | refine c_block ?_ | refine on_r ?_ | refine c_ret ?_ | refine c_exit ?_ | refine on_e ?_ | refine ob_e ?_ | refine ob_n ?_ | refine ob_r ?_ | refine ob_x rfl ?_)
        refine ⟨k - 1, by omega, k - 1, swpL d k (k - 1), rfl, by omega, by omega, rfl, swp_part hs hp (by omega) (by omega) (by omega) (by omega) q, by rw [ek]; exact hh.step (by omega) (by omega) (by omega), ?_⟩
        unfold swpL
        rw [Int.toNat_natCast, show ((k : Int) - 1).toNat = k - 1 by omega, ← ek]
        exact hS
      · have ek : k = i := by omega
        subst ek
        repeat (with_reducible first | refine c_seq ?_ | refine on_n ?_ | refine c_skip ?_ | refine c_block ?_ | refine on_r ?_ | refine c_ret ?_ | refine c_exit ?_ | refine on_e ?_ | refine ob_e ?_ | refine ob_n ?_ | refine ob_r ?_ | refine ob_x rfl ?_)
        try dsimp only
        unfold slices_symMergeCmpFunc_int__r
        refine w_nil ?_
        try dsimp only [retV, Frame.get]
        have e := seg_eq hs hp (hh.srt hs (by omega) (by omega) (by omega) (by omega) sl hi lo) (by omega) (by omega) (by omega)
        rw [em, e]
        exact ⟨_, ⟨rfl, X, rfl⟩, hS.eq (by ac_rfl)⟩
  obtain ⟨mid, hmid⟩ : ∃ mid : Nat, mid = (a + b) / 2 := ⟨_, rfl⟩
  have hm : 2 * mid ≤ a + b ∧ a + b ≤ 2 * mid + 1 := by omega
  have he : ((a : Int) + (b : Int)) / 2 = (mid : Int) := by omega
  clear hmid
  repeat (with_reducible first | refine c_seq ?_ | refine on_n ?_ | refine c_skip ?_ | refine c_block ?_ | refine on_r ?_ | refine c_ret ?_ | refine c_exit ?_ | refine on_e ?_ | refine ob_e ?_ | refine ob_n ?_ | refine ob_r ?_ | refine ob_x rfl ?_)
  refine c_ops ?_
  refine r_op (o_mov (s_no ?_))
  try dsimp only [putF, rd, Frame.get]
  refine r_op (o_mov (s_no ?_))
  try dsimp only [putF, rd, Frame.get]
  refine r_op (o_bin rfl (by first | trivial | (unfold inI64; omega)) (s_no ?_))
  try dsimp only [putF, rd, Frame.get]
  refine r_op (o_conv rfl (by first | trivial | (simp only [wMkF, inI64]; omega)) (s_no ?_))
  try dsimp only [putF, rd, Frame.get]
  refine r_op ?_
  refine o_shr rfl rfl (by decide) ?_; rw [half_u64 (by omega) (by omega), he]
  refine s_no ?_
  try dsimp only [putF, rd, Frame.get]
  refine r_op (o_conv rfl (by first | trivial | (simp only [wMkF, inI64]; omega)) (s_no ?_))
  try dsimp only [putF, rd, Frame.get]
  refine r_op (o_mov (s_no ?_))
  try dsimp only [putF, rd, Frame.get]
  refine r_nil (c_keep ?_)
  try dsimp only [List.map]
  try dsimp only [putF, rd, Frame.get]
  clear he
  repeat (with_reducible first | refine c_seq ?_ | refine on_n ?_ | refine c_skip ?_ | refine c_block ?_ | refine on_r ?_ | refine c_ret ?_ | refine c_exit ?_ | refine on_e ?_ | refine ob_e ?_ | refine ob_n ?_ | refine ob_r ?_ | refine ob_x rfl ?_)
  refine c_ops ?_
  refine r_op (o_mov (s_no ?_))
  try dsimp only [putF, rd, Frame.get]
  refine r_op (o_mov (s_no ?_))
  try dsimp only [putF, rd, Frame.get]
  refine r_op ?_
  refine o_bin rfl (by unfold inI64; omega) ?_; rw [show (mid : Int) + (m : Int) = ((mid + m : Nat) : Int) by omega]
  refine s_no ?_
  try dsimp only [putF, rd, Frame.get]
  refine r_op (o_mov (s_no ?_))
  try dsimp only [putF, rd, Frame.get]
  refine r_nil (c_keep ?_)
  try dsimp only [List.map]
  try dsimp only [putF, rd, Frame.get]
  repeat (with_reducible first | refine c_seq ?_ | refine on_n ?_ | refine c_skip ?_ | refine c_block ?_ | refine on_r ?_ | refine c_ret ?_ | refine c_exit ?_ | refine on_e ?_ | refine ob_e ?_ | refine ob_n ?_ | refine ob_r ?_ | refine ob_x rfl ?_)
  refine c_ops ?_
  refine r_op (o_mov (s_no ?_))
  try dsimp only [putF, rd, Frame.get]
  refine r_op (o_mov (s_no ?_))
  try dsimp only [putF, rd, Frame.get]
  refine r_nil (c_keep ?_)
  try dsimp only [List.map]
  try dsimp only [putF, rd, Frame.get]
  repeat (with_reducible first | refine c_seq ?_ | refine on_n ?_ | refine c_skip ?_ | refine c_block ?_ | refine on_r ?_ | refine c_ret ?_ | refine c_exit ?_ | refine on_e ?_ | refine ob_e ?_ | refine ob_n ?_ | refine ob_r ?_ | refine ob_x rfl ?_)
  refine c_join fun K1 hK1 => ?_
  have rest1 : ∀ (s0 r0 : Nat) (S : Store), ((mid < m ∧ s0 = mid + m - b ∧ r0 = mid) ∨ (¬ mid < m ∧ s0 = a ∧ r0 = m)) → Has S (pt p (.row v 1 (I64 ls)) + (A + mf)) → K1 [.int .i64 (s0 : Int), .int .i64 (r0 : Int)] S := by
    intro s0 r0 S hsr hS
    refine hK1 _ _ rfl ?_
    dsimp only [zipF, List.map, Frame.get]
    repeat (with_reducible first | refine c_seq ?_ | refine on_n ?_ | refine c_skip ?_ | refine c_block ?_ | refine on_r ?_ | refine c_ret ?_ | refine c_exit ?_ | refine on_e ?_ | refine ob_e ?_ | refine ob_n ?_ | refine ob_r ?_ | refine ob_x rfl ?_)
    refine c_ops ?_
    refine r_op (o_mov (s_no ?_))
    try dsimp only [putF, rd, Frame.get]
    refine r_op ?_
    refine o_bin rfl (by unfold inI64; omega) ?_; rw [show ((mid + m : Nat) : Int) - 1 = ((mid + m - 1 : Nat) : Int) by omega]
    refine s_no ?_
    try dsimp only [putF, rd, Frame.get]
    refine r_op (o_mov (s_no ?_))
    try dsimp only [putF, rd, Frame.get]
    refine r_nil (c_keep ?_)
    try dsimp only [List.map]
    try dsimp only [putF, rd, Frame.get]
    repeat (with_reducible first | refine c_seq ?_ | refine on_n ?_ | refine c_skip ?_ | refine c_block ?_ | refine on_r ?_ | refine c_ret ?_ | refine c_exit ?_ | refine on_e ?_ | refine ob_e ?_ | refine ob_n ?_ | refine ob_r ?_ | refine ob_x rfl ?_)
    refine c_loop (fun k xs S => ∃ (st r : Nat) (X : HM), xs = [.int .i64 (st : Int), .int .i64 (r : Int)] ∧ s0 ≤ st ∧ st ≤ r ∧ r ≤ r0 ∧ k = r - st ∧ (s0 < st → ¬ lt (gt ls ((mid : Int) + m - 1 - ((st : Int) - 1))) (gt ls ((st : Int) - 1))) ∧ (r < r0 → lt (gt ls ((mid : Int) + m - 1 - r)) (gt ls (r : Int))) ∧ Has S (pt p (.row v 1 (I64 ls)) + (A + (X + mf)))) (r0 - s0) ⟨s0, r0, HM.nil, rfl, Nat.le_refl _, by omega, Nat.le_refl _, rfl, fun q => absurd q (Nat.lt_irrefl _), fun q => absurd q (Nat.lt_irrefl _), hS.eq (by rw [HM.nil_add])⟩ ?_
    clear hS
    rintro k xs S hl' ⟨st, r, X, rfl, p0, p1, p2, rfl, p3, p4, hS⟩
    dsimp only [zipF, List.map, Frame.get]
    repeat (with_reducible first | refine c_seq ?_ | refine on_n ?_ | refine c_skip ?_ | refine c_block ?_ | refine on_r ?_ | refine c_ret ?_ | refine c_exit ?_ | refine on_e ?_ | refine ob_e ?_ | refine ob_n ?_ | refine ob_r ?_ | refine ob_x rfl ?_)
    refine c_ops ?_
    refine r_op (o_mov (s_no ?_))
    try dsimp only [putF, rd, Frame.get]
    refine r_op (o_mov (s_no ?_))
    try dsimp only [putF, rd, Frame.get]
    refine r_op (o_bin rfl (by first | trivial | (unfold inI64; omega)) (s_no ?_))
    try dsimp only [putF, rd, Frame.get]
    refine r_nil (c_keep ?_)
    try dsimp only [List.map]
    try dsimp only [putF, rd, Frame.get]
    repeat (with_reducible first | refine c_seq ?_ | refine on_n ?_ | refine c_skip ?_ | refine c_block ?_ | refine on_r ?_ | refine c_ret ?_ | refine c_exit ?_ | refine on_e ?_ | refine ob_e ?_ | refine ob_n ?_ | refine ob_r ?_ | refine ob_x rfl ?_)
    refine c_dec rfl (fun hx => ?_) (fun hx => ?_)
    · obtain ⟨h, hh⟩ : ∃ h : Nat, h = (st + r) / 2 := ⟨_, rfl⟩
      have hb : st ≤ h ∧ h < r := by omega
      have he : ((st : Int) + (r : Int)) / 2 = (h : Int) := by omega
      clear hh
      have t1 := ints_at (d := ls) (k := mid + m - 1 - h) (by omega)
      have t2 := ints_at (d := ls) (k := h) (by omega)
      have eh : ((mid + m - 1 - h : Nat) : Int) = (mid : Int) + m - 1 - h := by omega
      repeat (with_reducible first | refine c_seq ?_ | refine on_n ?_ | refine c_skip ?_ | refine c_block ?_ | refine on_r ?_ | refine c_ret ?_ | refine c_exit ?_ | refine on_e ?_ | refine ob_e ?_ | refine ob_n ?_ | refine ob_r ?_ | refine ob_x rfl ?_)
      refine c_ops ?_
      refine r_op (o_mov (s_no ?_))
      try dsimp only [putF, rd, Frame.get]
      refine r_op (o_mov (s_no ?_))
      try dsimp only [putF, rd, Frame.get]
      refine r_op (o_bin rfl (by first | trivial | (unfold inI64; omega)) (s_no ?_))
      try dsimp only [putF, rd, Frame.get]
      refine r_op (o_conv rfl (by first | trivial | (simp only [wMkF, inI64]; omega)) (s_no ?_))
      try dsimp only [putF, rd, Frame.get]
      refine r_op ?_
      refine o_shr rfl rfl (by decide) ?_; rw [half_u64 (by omega) (by omega), he]
      refine s_no ?_
      try dsimp only [putF, rd, Frame.get]
      refine r_op (o_conv rfl (by first | trivial | (simp only [wMkF, inI64]; omega)) (s_no ?_))
      try dsimp only [putF, rd, Frame.get]
      refine r_op (o_mov (s_no ?_))
      try dsimp only [putF, rd, Frame.get]
      refine r_nil (c_keep ?_)
      try dsimp only [List.map]
      try dsimp only [putF, rd, Frame.get]
      repeat (with_reducible first | refine c_seq ?_ | refine on_n ?_ | refine c_skip ?_ | refine c_block ?_ | refine on_r ?_ | refine c_ret ?_ | refine c_exit ?_ | refine on_e ?_ | refine ob_e ?_ | refine ob_n ?_ | refine ob_r ?_ | refine ob_x rfl ?_)
      refine c_opsD0 hS fun S hS => ?_
      refine d_zero ?_
      refine r_op (o_mov (s_no ?_))
      try dsimp only [putF, rd, Frame.get]
      refine r_op (o_mov (s_no ?_))
      try dsimp only [putF, rd, Frame.get]
      refine r_op (o_mov (s_no ?_))
      try dsimp only [putF, rd, Frame.get]
      refine r_op (o_mov (s_no ?_))
      try dsimp only [putF, rd, Frame.get]
      refine r_op ?_
      refine o_bin rfl (by unfold inI64; omega) ?_; rw [show ((mid + m - 1 : Nat) : Int) - (h : Int) = ((mid + m - 1 - h : Nat) : Int) by omega]
      refine s_no ?_
      try dsimp only [putF, rd, Frame.get]
      first | refine r_op (o_iaddr hS rfl rfl rfl (by omega) (s_no ?_)) | refine r_op (o_iaddrR rfl rfl (by omega) (by assumption) (s_no ?_)) | refine r_op (o_iaddrA rfl rfl (by omega) (s_no ?_)) | refine r_op (o_iaddrAR rfl rfl (by omega) (s_no ?_))
      try dsimp only [putF, rd, Frame.get]
      try simp only [Nat.zero_mul, Nat.mul_zero, Nat.mul_one, Nat.add_zero, Nat.zero_add, Nat.sub_zero, Nat.reduceAdd, Nat.reduceMul]
      first | refine r_op (o_load hS rfl rfl rfl rfl (s_no ?_)) | refine r_op (o_load hS rfl rfl (by assumption) rfl (s_no ?_)) | refine r_op (o_loadR rfl rfl rfl (s_no ?_)) | refine r_op (o_loadR rfl (by assumption) rfl (s_no ?_))
      try dsimp only [putF, rd, Frame.get]
      refine r_op (o_mov (s_no ?_))
      try dsimp only [putF, rd, Frame.get]
      refine r_op (o_mov (s_no ?_))
      try dsimp only [putF, rd, Frame.get]
      first | refine r_op (o_iaddr hS rfl rfl rfl (by omega) (s_no ?_)) | refine r_op (o_iaddrR rfl rfl (by omega) (by assumption) (s_no ?_)) | refine r_op (o_iaddrA rfl rfl (by omega) (s_no ?_)) | refine r_op (o_iaddrAR rfl rfl (by omega) (s_no ?_))
      try dsimp only [putF, rd, Frame.get]
      try simp only [Nat.zero_mul, Nat.mul_zero, Nat.mul_one, Nat.add_zero, Nat.zero_add, Nat.sub_zero, Nat.reduceAdd, Nat.reduceMul]
      first | refine r_op (o_load hS rfl rfl rfl rfl (s_no ?_)) | refine r_op (o_load hS rfl rfl (by assumption) rfl (s_no ?_)) | refine r_op (o_loadR rfl rfl rfl (s_no ?_)) | refine r_op (o_loadR rfl (by assumption) rfl (s_no ?_))
      try dsimp only [putF, rd, Frame.get]
      refine r_op ?_
      refine o_callv rfl ?_; dsimp only [List.map, putF, rd, Frame.get]; refine HC.use (hc _ _ (hok _ (gt_mem (l := ls) (i := ((mid + m - 1 - h : Nat) : Int)) (by omega) (by omega))) (hok _ (gt_mem (l := ls) (i := ((h : Nat) : Int)) (by omega) (by omega)))) hS ?_; rintro r' m' S ⟨rfl, X', rfl⟩ hS
      refine s_no ?_
      try dsimp only [putF, rd, Frame.get]
      refine r_op (o_bin rfl (by first | trivial | (unfold inI64; omega)) (s_no ?_))
      try dsimp only [putF, rd, Frame.get]
      refine r_op (o_not rfl (s_no ?_))
      try dsimp only [putF, rd, Frame.get]
      refine r_nil (c_keep ?_)
      try dsimp only [List.map]
      try dsimp only [putF, rd, Frame.get]
      repeat (with_reducible first | refine c_seq ?_ | refine on_n ?_ | refine c_skip ?_ | refine c_block ?_ | refine on_r ?_ | refine c_ret ?_ | refine c_exit ?_ | refine on_e ?_ | refine ob_e ?_ | refine ob_n ?_ | refine ob_r ?_ | refine ob_x rfl ?_)
      refine c_ndec rfl (fun c => ?_) (fun c => ?_)
      · have c : ¬ lt (gt ls ((mid : Int) + m - 1 - h)) (gt ls (h : Int)) := fun q => c ((hcf _ _).2 (by rw [eh]; exact q))
        repeat (with_reducible first | refine c_seq ?_ | refine on_n ?_ | refine c_skip ?_ | refine c_block ?_ | refine on_r ?_ | refine c_ret ?_ | refine c_exit ?_ | refine on_e ?_ | refine ob_e ?_ | refine ob_n ?_ | refine ob_r ?_ | refine ob_x rfl ?_)
        refine c_ops ?_
        refine r_op (o_mov (s_no ?_))
        try dsimp only [putF, rd, Frame.get]
        refine r_op (o_bin rfl (by first | trivial | (unfold inI64; omega)) (s_no ?_))
        try dsimp only [putF, rd, Frame.get]
        refine r_op (o_mov (s_no ?_))
        try dsimp only [putF, rd, Frame.get]
        refine r_nil (c_keep ?_)
        try dsimp only [List.map]
        try dsimp only [putF, rd, Frame.get]
        repeat (with_reducible first | refine c_seq ?_ | refine on_n ?_ | refine c_skip ?_ | refine c_block ?_ | refine on_r ?_ | refine c_ret ?_ | refine c_exit ?_ | refine on_e ?_ | refine ob_e ?_ | refine ob_n ?_ | refine ob_r ?_ | refine ob_x rfl ?_)
        refine ⟨r - (h + 1), by omega, h + 1, r, X' + X, rfl, by omega, by omega, p2, rfl, fun _ => ?_, p4, hS.eq (by ac_rfl)⟩
        rw [show ((h + 1 : Nat) : Int) - 1 = (h : Int) by omega]; exact c
      · have c := (hcf _ _).1 c
        rw [eh] at c
        repeat (with_reducible first | refine c_seq ?_ | refine on_n ?_ | refine c_skip ?_ | refine c_block ?_ | refine on_r ?_ | refine c_ret ?_ | refine c_exit ?_ | refine on_e ?_ | refine ob_e ?_ | refine ob_n ?_ | refine ob_r ?_ | refine ob_x rfl ?_)
        refine c_ops ?_
        refine r_op (o_mov (s_no ?_))
        try dsimp only [putF, rd, Frame.get]
        refine r_op (o_mov (s_no ?_))
        try dsimp only [putF, rd, Frame.get]
        refine r_nil (c_keep ?_)
        try dsimp only [List.map]
        try dsimp only [putF, rd, Frame.get]
        repeat (with_reducible first | refine c_seq ?_ | refine on_n ?_ | refine c_skip ?_ | refine c_block ?_ | refine on_r ?_ | refine c_ret ?_ | refine c_exit ?_ | refine on_e ?_ | refine ob_e ?_ | refine ob_n ?_ | refine ob_r ?_ | refine ob_x rfl ?_)
        exact ⟨h - st, by omega, st, h, X' + X, rfl, p0, by omega, by omega, rfl, p3, fun _ => c, hS.eq (by ac_rfl)⟩
    · obtain rfl : st = r := by omega
      have okk : SymOk lt ls a m b mid st ((mid : Int) + m - st) := ⟨by omega, by omega, by omega, by omega, rfl, by omega, by omega, by omega, by omega, by omega, by omega, sl, sr, fun c1 c2 => by
          have := p3 (by omega)
          rwa [show (mid : Int) + m - 1 - ((st : Int) - 1) = mid + m - st by omega] at this, fun c1 c2 => by
          have := p4 (by omega)
          rwa [show (mid : Int) + m - 1 - st = mid + m - st - 1 by omega] at this⟩
      have g1 := okk.s0; have g2 := okk.s1; have g3 := okk.s2; have g4 := okk.e0; have g5 := okk.e1; have g6 := okk.e2
      have een : ((mid + m - st : Nat) : Int) = (mid : Int) + m - st := by omega
      have pt1 := okk.part hs
      have len1 := rotL_len ls st m ((mid : Int) + m - st)
      repeat (with_reducible first | refine c_seq ?_ | refine on_n ?_ | refine c_skip ?_ | refine c_block ?_ | refine on_r ?_ | refine c_ret ?_ | refine c_exit ?_ | refine on_e ?_ | refine ob_e ?_ | refine ob_n ?_ | refine ob_r ?_ | refine ob_x rfl ?_)
      refine c_ops ?_
      refine r_op (o_mov (s_no ?_))
      try dsimp only [putF, rd, Frame.get]
      refine r_op (o_mov (s_no ?_))
      try dsimp only [putF, rd, Frame.get]
      refine r_op ?_
      refine o_bin rfl (by unfold inI64; omega) ?_; rw [show ((mid + m : Nat) : Int) - (st : Int) = ((mid + m - st : Nat) : Int) by omega]
      refine s_no ?_
      try dsimp only [putF, rd, Frame.get]
      refine r_op (o_mov (s_no ?_))
      try dsimp only [putF, rd, Frame.get]
      refine r_nil (c_keep ?_)
      try dsimp only [List.map]
      try dsimp only [putF, rd, Frame.get]
      repeat (with_reducible first | refine c_seq ?_ | refine on_n ?_ | refine c_skip ?_ | refine c_block ?_ | refine on_r ?_ | refine c_ret ?_ | refine c_exit ?_ | refine on_e ?_ | refine ob_e ?_ | refine ob_n ?_ | refine ob_r ?_ | refine ob_x rfl ?_)
      refine c_join fun K2 hK2 => ?_
      have rest2 : ∀ S : Store, Has S (pt p (.row v 1 (I64 (rotL ls st m ((mid : Int) + m - st)))) + (A + (X + mf))) → K2 [] S := by
        intro S hS
        refine hK2 _ _ rfl ?_
        dsimp only [zipF, List.map, Frame.get]
        have hok1 := part_ok pt1 hok
        obtain ⟨u1, u2⟩ := seg_spec hs (l := rotL ls st m ((mid : Int) + m - st)) (a := a) (b := mid) (by omega) (by omega) (by omega)
        repeat (with_reducible first | refine c_seq ?_ | refine on_n ?_ | refine c_skip ?_ | refine c_block ?_ | refine on_r ?_ | refine c_ret ?_ | refine c_exit ?_ | refine on_e ?_ | refine ob_e ?_ | refine ob_n ?_ | refine ob_r ?_ | refine ob_x rfl ?_)
        refine c_join fun K3 hK3 => ?_
        have rest3 : ∀ (d : List Int) (X : HM) (S : Store), Part lt (rotL ls st m ((mid : Int) + m - st)) d a mid → SrtIn lt d a mid → Has S (pt p (.row v 1 (I64 d)) + (A + (X + mf))) → K3 [] S := by
          intro d X S d1 d2 hS
          have ld := d1.len
          have w1 : SrtIn lt d mid ((mid : Int) + m - st) := srt_out d1 (by omega) (by omega) (.inr (Int.le_refl _)) okk.srt3
          have w2 : SrtIn lt d ((mid : Int) + m - st) b := srt_out d1 (by omega) (by omega) (.inr (by omega)) okk.srt4
          refine hK3 _ _ rfl ?_
          dsimp only [zipF, List.map, Frame.get]
          repeat (with_reducible first | refine c_seq ?_ | refine on_n ?_ | refine c_skip ?_ | refine c_block ?_ | refine on_r ?_ | refine c_ret ?_ | refine c_exit ?_ | refine on_e ?_ | refine ob_e ?_ | refine ob_n ?_ | refine ob_r ?_ | refine ob_x rfl ?_)
          by_cases z : (mid : Int) < (mid : Int) + m - st ∧ (mid : Int) + m - st < b
          · obtain ⟨v1, v2⟩ := seg_spec hs (l := d) (a := mid) (b := b) (by omega) (by omega) (by omega)
            have fin := okk.fin hs d1 d2 v1 v2
            refine c_ops ?_
            refine r_op (o_mov (s_no ?_))
            try dsimp only [putF, rd, Frame.get]
            refine r_op (o_mov (s_no ?_))
            try dsimp only [putF, rd, Frame.get]
            refine r_op (o_bin rfl (by first | trivial | (unfold inI64; omega)) (s_no ?_))
            try dsimp only [putF, rd, Frame.get]
            refine r_op ?_
            refine o_mov (s_dec (fun hg => ?_) (fun hg => by exfalso; omega))
            try dsimp only [putF, rd, Frame.get]
            first | ((with_reducible refine r_st ?_ ?_); (· rfl)) | ((with_reducible refine r_sf ?_ ?_); (· rfl)) | ((with_reducible refine r_su (xs := []) ?_ ?_); (· rfl)) | refine r_tt rfl (o_mov (s_no ?_))
            try dsimp only [putF, rd, Frame.get]
            first | ((with_reducible refine r_st ?_ ?_); (· rfl)) | ((with_reducible refine r_sf ?_ ?_); (· rfl)) | ((with_reducible refine r_su (xs := []) ?_ ?_); (· rfl)) | refine r_tt rfl (o_mov (s_no ?_))
            try dsimp only [putF, rd, Frame.get]
            first | ((with_reducible refine r_st ?_ ?_); (· rfl)) | ((with_reducible refine r_sf ?_ ?_); (· rfl)) | ((with_reducible refine r_su (xs := []) ?_ ?_); (· rfl)) | refine r_tt rfl (o_bin rfl (by first | trivial | (unfold inI64; omega)) (s_no ?_))
            try dsimp only [putF, rd, Frame.get]
            first | refine r_op (o_pickT rfl (s_no ?_)) | refine r_op (o_pickF rfl (s_no ?_))
            try dsimp only [putF, rd, Frame.get]
            refine r_nil (c_keep ?_)
            try dsimp only [List.map]
            try dsimp only [putF, rd, Frame.get]
            repeat (with_reducible first | refine c_seq ?_ | refine on_n ?_ | refine c_skip ?_ | refine c_block ?_ | refine on_r ?_ | refine c_ret ?_ | refine c_exit ?_ | refine on_e ?_ | refine ob_e ?_ | refine ob_n ?_ | refine ob_r ?_ | refine ob_x rfl ?_)
            refine c_dec rfl (fun hg2 => ?_) (fun hg2 => by exfalso; omega)
            repeat (with_reducible first | refine c_seq ?_ | refine on_n ?_ | refine c_skip ?_ | refine c_block ?_ | refine on_r ?_ | refine c_ret ?_ | refine c_exit ?_ | refine on_e ?_ | refine ob_e ?_ | refine ob_n ?_ | refine ob_r ?_ | refine ob_x rfl ?_)
            refine c_ops ?_
            refine r_op (o_mov (s_no ?_))
            try dsimp only [putF, rd, Frame.get]
            refine r_op (o_mov (s_no ?_))
            try dsimp only [putF, rd, Frame.get]
            refine r_op (o_mov (s_no ?_))
            try dsimp only [putF, rd, Frame.get]
            refine r_op (o_mov (s_no ?_))
            try dsimp only [putF, rd, Frame.get]
            refine r_op (o_mov (s_no ?_))
            try dsimp only [putF, rd, Frame.get]
            refine r_op (o_call ?_)
            dsimp only [List.map, putF, rd, Frame.get]
            refine ((ih mid (mid + m - st) b d (by omega) (by omega) (by omega) (by omega) (by rw [een]; exact w1) (by rw [een]; exact w2) (part_ok d1 hok1) (by omega)) _ (X + mf) (hS.eq (by ac_rfl))).mono ?_; rintro r' S ⟨m', ⟨rfl, X', rfl⟩, hS⟩
            refine s_no ?_
            try dsimp only [putF, rd, Frame.get]
            refine r_nil (c_keep ?_)
            try dsimp only [List.map]
            try dsimp only [putF, rd, Frame.get]
            repeat (with_reducible first | refine c_seq ?_ | refine on_n ?_ | refine c_skip ?_ | refine c_block ?_ | refine on_r ?_ | refine c_ret ?_ | refine c_exit ?_ | refine on_e ?_ | refine ob_e ?_ | refine ob_n ?_ | refine ob_r ?_ | refine ob_x rfl ?_)
            try dsimp only
            unfold slices_symMergeCmpFunc_int__r
            refine w_nil ?_
            try dsimp only [retV, Frame.get]
            rw [fin] at hS
            exact ⟨_, ⟨rfl, X' + X, rfl⟩, hS.eq (by ac_rfl)⟩
          · have w3 : SrtIn lt d mid b := srt_out d1 (by omega) (by omega) (.inr (Int.le_refl _)) (okk.right z)
            have fin := okk.fin hs d1 d2 (.refl _ _ _) w3
            by_cases z1 : (mid : Int) < (mid : Int) + m - st
            · refine c_ops ?_
              refine r_op (o_mov (s_no ?_))
              try dsimp only [putF, rd, Frame.get]
              refine r_op (o_mov (s_no ?_))
              try dsimp only [putF, rd, Frame.get]
              refine r_op (o_bin rfl (by first | trivial | (unfold inI64; omega)) (s_no ?_))
              try dsimp only [putF, rd, Frame.get]
              refine r_op ?_
              refine o_mov (s_dec (fun hg => ?_) (fun hg => by exfalso; omega))
              try dsimp only [putF, rd, Frame.get]
              first | ((with_reducible refine r_st ?_ ?_); (· rfl)) | ((with_reducible refine r_sf ?_ ?_); (· rfl)) | ((with_reducible refine r_su (xs := []) ?_ ?_); (· rfl)) | refine r_tt rfl (o_mov (s_no ?_))
              try dsimp only [putF, rd, Frame.get]
              first | ((with_reducible refine r_st ?_ ?_); (· rfl)) | ((with_reducible refine r_sf ?_ ?_); (· rfl)) | ((with_reducible refine r_su (xs := []) ?_ ?_); (· rfl)) | refine r_tt rfl (o_mov (s_no ?_))
              try dsimp only [putF, rd, Frame.get]
              first | ((with_reducible refine r_st ?_ ?_); (· rfl)) | ((with_reducible refine r_sf ?_ ?_); (· rfl)) | ((with_reducible refine r_su (xs := []) ?_ ?_); (· rfl)) | refine r_tt rfl (o_bin rfl (by first | trivial | (unfold inI64; omega)) (s_no ?_))
              try dsimp only [putF, rd, Frame.get]
              first | refine r_op (o_pickT rfl (s_no ?_)) | refine r_op (o_pickF rfl (s_no ?_))
              try dsimp only [putF, rd, Frame.get]
              refine r_nil (c_keep ?_)
              try dsimp only [List.map]
              try dsimp only [putF, rd, Frame.get]
              repeat (with_reducible first | refine c_seq ?_ | refine on_n ?_ | refine c_skip ?_ | refine c_block ?_ | refine on_r ?_ | refine c_ret ?_ | refine c_exit ?_ | refine on_e ?_ | refine ob_e ?_ | refine ob_n ?_ | refine ob_r ?_ | refine ob_x rfl ?_)
              refine c_dec rfl (fun hg2 => by exfalso; omega) (fun hg2 => ?_)
              repeat (with_reducible first | refine c_seq ?_ | refine on_n ?_ | refine c_skip ?_ | refine c_block ?_ | refine on_r ?_ | refine c_ret ?_ | refine c_exit ?_ | refine on_e ?_ | refine ob_e ?_ | refine ob_n ?_ | refine ob_r ?_ | refine ob_x rfl ?_)
              try dsimp only
              unfold slices_symMergeCmpFunc_int__r
              refine w_nil ?_
              try dsimp only [retV, Frame.get]
              rw [fin] at hS
              exact ⟨_, ⟨rfl, X, rfl⟩, hS.eq (by ac_rfl)⟩
            · refine c_ops ?_
              refine r_op (o_mov (s_no ?_))
              try dsimp only [putF, rd, Frame.get]
              refine r_op (o_mov (s_no ?_))
              try dsimp only [putF, rd, Frame.get]
              refine r_op (o_bin rfl (by first | trivial | (unfold inI64; omega)) (s_no ?_))
              try dsimp only [putF, rd, Frame.get]
              refine r_op ?_
              refine o_mov (s_dec (fun hg => by exfalso; omega) (fun hg => ?_))
              try dsimp only [putF, rd, Frame.get]
              first | ((with_reducible refine r_st ?_ ?_); (· rfl)) | ((with_reducible refine r_sf ?_ ?_); (· rfl)) | ((with_reducible refine r_su (xs := []) ?_ ?_); (· rfl)) | refine r_tt rfl (o_mov (s_no ?_))
              try dsimp only [putF, rd, Frame.get]
              first | ((with_reducible refine r_st ?_ ?_); (· rfl)) | ((with_reducible refine r_sf ?_ ?_); (· rfl)) | ((with_reducible refine r_su (xs := []) ?_ ?_); (· rfl)) | refine r_tt rfl (o_mov (s_no ?_))
              try dsimp only [putF, rd, Frame.get]
              first | ((with_reducible refine r_st ?_ ?_); (· rfl)) | ((with_reducible refine r_sf ?_ ?_); (· rfl)) | ((with_reducible refine r_su (xs := []) ?_ ?_); (· rfl)) | refine r_tt rfl (o_bin rfl (by first | trivial | (unfold inI64; omega)) (s_no ?_))
              try dsimp only [putF, rd, Frame.get]
              first | refine r_op (o_pickT rfl (s_no ?_)) | refine r_op (o_pickF rfl (s_no ?_))
              try dsimp only [putF, rd, Frame.get]
              refine r_nil (c_keep ?_)
              try dsimp only [List.map]
              try dsimp only [putF, rd, Frame.get]
              repeat (with_reducible first | refine c_seq ?_ | refine on_n ?_ | refine c_skip ?_ | refine c_block ?_ | refine on_r ?_ | refine c_ret ?_ | refine c_exit ?_ | refine on_e ?_ | refine ob_e ?_ | refine ob_n ?_ | refine ob_r ?_ | refine ob_x rfl ?_)
              refine c_bool rfl (fun h => by cases h) (fun _ => ?_)
              repeat (with_reducible first | refine c_seq ?_ | refine on_n ?_ | refine c_skip ?_ | refine c_block ?_ | refine on_r ?_ | refine c_ret ?_ | refine c_exit ?_ | refine on_e ?_ | refine ob_e ?_ | refine ob_n ?_ | refine ob_r ?_ | refine ob_x rfl ?_)
              try dsimp only
              unfold slices_symMergeCmpFunc_int__r
              refine w_nil ?_
              try dsimp only [retV, Frame.get]
              rw [fin] at hS
              exact ⟨_, ⟨rfl, X, rfl⟩, hS.eq (by ac_rfl)⟩
        repeat (with_reducible first | refine c_seq ?_ | refine on_n ?_ | refine c_skip ?_ | refine c_block ?_ | refine on_r ?_ | refine c_ret ?_ | refine c_exit ?_ | refine on_e ?_ | refine ob_e ?_ | refine ob_n ?_ | refine ob_r ?_ | refine ob_x rfl ?_)
        by_cases z : (a : Int) < st ∧ (st : Int) < mid
        · refine c_ops ?_
          refine r_op (o_mov (s_no ?_))
          try dsimp only [putF, rd, Frame.get]
          refine r_op (o_mov (s_no ?_))
          try dsimp only [putF, rd, Frame.get]
          refine r_op (o_bin rfl (by first | trivial | (unfold inI64; omega)) (s_no ?_))
          try dsimp only [putF, rd, Frame.get]
          refine r_op ?_
          refine o_mov (s_dec (fun hg => ?_) (fun hg => by exfalso; omega))
          try dsimp only [putF, rd, Frame.get]
          first | ((with_reducible refine r_st ?_ ?_); (· rfl)) | ((with_reducible refine r_sf ?_ ?_); (· rfl)) | ((with_reducible refine r_su (xs := []) ?_ ?_); (· rfl)) | refine r_tt rfl (o_mov (s_no ?_))
          try dsimp only [putF, rd, Frame.get]
          first | ((with_reducible refine r_st ?_ ?_); (· rfl)) | ((with_reducible refine r_sf ?_ ?_); (· rfl)) | ((with_reducible refine r_su (xs := []) ?_ ?_); (· rfl)) | refine r_tt rfl (o_mov (s_no ?_))
          try dsimp only [putF, rd, Frame.get]
          first | ((with_reducible refine r_st ?_ ?_); (· rfl)) | ((with_reducible refine r_sf ?_ ?_); (· rfl)) | ((with_reducible refine r_su (xs := []) ?_ ?_); (· rfl)) | refine r_tt rfl (o_bin rfl (by first | trivial | (unfold inI64; omega)) (s_no ?_))
          try dsimp only [putF, rd, Frame.get]
          first | refine r_op (o_pickT rfl (s_no ?_)) | refine r_op (o_pickF rfl (s_no ?_))
          try dsimp only [putF, rd, Frame.get]
          refine r_nil (c_keep ?_)
          try dsimp only [List.map]
          try dsimp only [putF, rd, Frame.get]
          repeat (with_reducible first | refine c_seq ?_ | refine on_n ?_ | refine c_skip ?_ | refine c_block ?_ | refine on_r ?_ | refine c_ret ?_ | refine c_exit ?_ | refine on_e ?_ | refine ob_e ?_ | refine ob_n ?_ | refine ob_r ?_ | refine ob_x rfl ?_)
          refine c_dec rfl (fun hg2 => ?_) (fun hg2 => by exfalso; omega)
          repeat (with_reducible first | refine c_seq ?_ | refine on_n ?_ | refine c_skip ?_ | refine c_block ?_ | refine on_r ?_ | refine c_ret ?_ | refine c_exit ?_ | refine on_e ?_ | refine ob_e ?_ | refine ob_n ?_ | refine ob_r ?_ | refine ob_x rfl ?_)
          refine c_ops ?_
          refine r_op (o_mov (s_no ?_))
          try dsimp only [putF, rd, Frame.get]
          refine r_op (o_mov (s_no ?_))
          try dsimp only [putF, rd, Frame.get]
          refine r_op (o_mov (s_no ?_))
          try dsimp only [putF, rd, Frame.get]
          refine r_op (o_mov (s_no ?_))
          try dsimp only [putF, rd, Frame.get]
          refine r_op (o_mov (s_no ?_))
          try dsimp only [putF, rd, Frame.get]
          refine r_op (o_call ?_)
          dsimp only [List.map, putF, rd, Frame.get]
          refine ((ih a st mid _ (by omega) (by omega) (by omega) (by omega) okk.srt1 okk.srt2 hok1 (by omega)) _ (X + mf) (hS.eq (by ac_rfl))).mono ?_; rintro r' S ⟨m', ⟨rfl, X', rfl⟩, hS⟩
          refine s_no ?_
          try dsimp only [putF, rd, Frame.get]
          refine r_nil (c_keep ?_)
          try dsimp only [List.map]
          try dsimp only [putF, rd, Frame.get]
          repeat (with_reducible first | refine c_seq ?_ | refine on_n ?_ | refine c_skip ?_ | refine c_block ?_ | refine on_r ?_ | refine c_ret ?_ | refine c_exit ?_ | refine on_e ?_ | refine ob_e ?_ | refine ob_n ?_ | refine ob_r ?_ | refine ob_x rfl ?_)
          exact rest3 _ (X' + X) _ u1 u2 (hS.eq (by ac_rfl))
        · by_cases z1 : (a : Int) < st
          · refine c_ops ?_
            refine r_op (o_mov (s_no ?_))
            try dsimp only [putF, rd, Frame.get]
            refine r_op (o_mov (s_no ?_))
            try dsimp only [putF, rd, Frame.get]
            refine r_op (o_bin rfl (by first | trivial | (unfold inI64; omega)) (s_no ?_))
            try dsimp only [putF, rd, Frame.get]
            refine r_op ?_
            refine o_mov (s_dec (fun hg => ?_) (fun hg => by exfalso; omega))
            try dsimp only [putF, rd, Frame.get]
            first | ((with_reducible refine r_st ?_ ?_); (· rfl)) | ((with_reducible refine r_sf ?_ ?_); (· rfl)) | ((with_reducible refine r_su (xs := []) ?_ ?_); (· rfl)) | refine r_tt rfl (o_mov (s_no ?_))
            try dsimp only [putF, rd, Frame.get]
            first | ((with_reducible refine r_st ?_ ?_); (· rfl)) | ((with_reducible refine r_sf ?_ ?_); (· rfl)) | ((with_reducible refine r_su (xs := []) ?_ ?_); (· rfl)) | refine r_tt rfl (o_mov (s_no ?_))
            try dsimp only [putF, rd, Frame.get]
            first | ((with_reducible refine r_st ?_ ?_); (· rfl)) | ((with_reducible refine r_sf ?_ ?_); (· rfl)) | ((with_reducible refine r_su (xs := []) ?_ ?_); (· rfl)) | refine r_tt rfl (o_bin rfl (by first | trivial | (unfold inI64; omega)) (s_no ?_))
            try dsimp only [putF, rd, Frame.get]
            first | refine r_op (o_pickT rfl (s_no ?_)) | refine r_op (o_pickF rfl (s_no ?_))
            try dsimp only [putF, rd, Frame.get]
            refine r_nil (c_keep ?_)
            try dsimp only [List.map]
            try dsimp only [putF, rd, Frame.get]
            repeat (with_reducible first | refine c_seq ?_ | refine on_n ?_ | refine c_skip ?_ | refine c_block ?_ | refine on_r ?_ | refine c_ret ?_ | refine c_exit ?_ | refine on_e ?_ | refine ob_e ?_ | refine ob_n ?_ | refine ob_r ?_ | refine ob_x rfl ?_)
            refine c_dec rfl (fun hg2 => by exfalso; omega) (fun hg2 => ?_)
            repeat (with_reducible first | refine c_seq ?_ | refine on_n ?_ | refine c_skip ?_ | refine c_block ?_ | refine on_r ?_ | refine c_ret ?_ | refine c_exit ?_ | refine on_e ?_ | refine ob_e ?_ | refine ob_n ?_ | refine ob_r ?_ | refine ob_x rfl ?_)
            exact rest3 _ X _ (.refl _ _ _) (okk.left z) hS
          · refine c_ops ?_
            refine r_op (o_mov (s_no ?_))
            try dsimp only [putF, rd, Frame.get]
            refine r_op (o_mov (s_no ?_))
            try dsimp only [putF, rd, Frame.get]
            refine r_op (o_bin rfl (by first | trivial | (unfold inI64; omega)) (s_no ?_))
            try dsimp only [putF, rd, Frame.get]
            refine r_op ?_
            refine o_mov (s_dec (fun hg => by exfalso; omega) (fun hg => ?_))
            try dsimp only [putF, rd, Frame.get]
            first | ((with_reducible refine r_st ?_ ?_); (· rfl)) | ((with_reducible refine r_sf ?_ ?_); (· rfl)) | ((with_reducible refine r_su (xs := []) ?_ ?_); (· rfl)) | refine r_tt rfl (o_mov (s_no ?_))
            try dsimp only [putF, rd, Frame.get]
            first | ((with_reducible refine r_st ?_ ?_); (· rfl)) | ((with_reducible refine r_sf ?_ ?_); (· rfl)) | ((with_reducible refine r_su (xs := []) ?_ ?_); (· rfl)) | refine r_tt rfl (o_mov (s_no ?_))
            try dsimp only [putF, rd, Frame.get]
            first | ((with_reducible refine r_st ?_ ?_); (· rfl)) | ((with_reducible refine r_sf ?_ ?_); (· rfl)) | ((with_reducible refine r_su (xs := []) ?_ ?_); (· rfl)) | refine r_tt rfl (o_bin rfl (by first | trivial | (unfold inI64; omega)) (s_no ?_))
            try dsimp only [putF, rd, Frame.get]
            first | refine r_op (o_pickT rfl (s_no ?_)) | refine r_op (o_pickF rfl (s_no ?_))
            try dsimp only [putF, rd, Frame.get]
            refine r_nil (c_keep ?_)
            try dsimp only [List.map]
            try dsimp only [putF, rd, Frame.get]
            repeat (with_reducible first | refine c_seq ?_ | refine on_n ?_ | refine c_skip ?_ | refine c_block ?_ | refine on_r ?_ | refine c_ret ?_ | refine c_exit ?_ | refine on_e ?_ | refine ob_e ?_ | refine ob_n ?_ | refine ob_r ?_ | refine ob_x rfl ?_)
            refine c_bool rfl (fun h => by cases h) (fun _ => ?_)
            repeat (with_reducible first | refine c_seq ?_ | refine on_n ?_ | refine c_skip ?_ | refine c_block ?_ | refine on_r ?_ | refine c_ret ?_ | refine c_exit ?_ | refine on_e ?_ | refine ob_e ?_ | refine ob_n ?_ | refine ob_r ?_ | refine ob_x rfl ?_)
            exact rest3 _ X _ (.refl _ _ _) (okk.left z) hS
      repeat (with_reducible first | refine c_seq ?_ | refine on_n ?_ | refine c_skip ?_ | refine c_block ?_ | refine on_r ?_ | refine c_ret ?_ | refine c_exit ?_ | refine on_e ?_ | refine ob_e ?_ | refine ob_n ?_ | refine ob_r ?_ | refine ob_x rfl ?_)
      by_cases z : (st : Int) < m ∧ (m : Int) < (mid : Int) + m - st
      · refine c_ops ?_
        refine r_op (o_mov (s_no ?_))
        try dsimp only [putF, rd, Frame.get]
        refine r_op (o_mov (s_no ?_))
        try dsimp only [putF, rd, Frame.get]
        refine r_op (o_bin rfl (by first | trivial | (unfold inI64; omega)) (s_no ?_))
        try dsimp only [putF, rd, Frame.get]
        refine r_op ?_
        refine o_mov (s_dec (fun hg => ?_) (fun hg => by exfalso; omega))
        try dsimp only [putF, rd, Frame.get]
        first | ((with_reducible refine r_st ?_ ?_); (· rfl)) | ((with_reducible refine r_sf ?_ ?_); (· rfl)) | ((with_reducible refine r_su (xs := []) ?_ ?_); (· rfl)) | refine r_tt rfl (o_mov (s_no ?_))
        try dsimp only [putF, rd, Frame.get]
        first | ((with_reducible refine r_st ?_ ?_); (· rfl)) | ((with_reducible refine r_sf ?_ ?_); (· rfl)) | ((with_reducible refine r_su (xs := []) ?_ ?_); (· rfl)) | refine r_tt rfl (o_mov (s_no ?_))
        try dsimp only [putF, rd, Frame.get]
        first | ((with_reducible refine r_st ?_ ?_); (· rfl)) | ((with_reducible refine r_sf ?_ ?_); (· rfl)) | ((with_reducible refine r_su (xs := []) ?_ ?_); (· rfl)) | refine r_tt rfl (o_bin rfl (by first | trivial | (unfold inI64; omega)) (s_no ?_))
        try dsimp only [putF, rd, Frame.get]
        first | refine r_op (o_pickT rfl (s_no ?_)) | refine r_op (o_pickF rfl (s_no ?_))
        try dsimp only [putF, rd, Frame.get]
        refine r_nil (c_keep ?_)
        try dsimp only [List.map]
        try dsimp only [putF, rd, Frame.get]
        repeat (with_reducible first | refine c_seq ?_ | refine on_n ?_ | refine c_skip ?_ | refine c_block ?_ | refine on_r ?_ | refine c_ret ?_ | refine c_exit ?_ | refine on_e ?_ | refine ob_e ?_ | refine ob_n ?_ | refine ob_r ?_ | refine ob_x rfl ?_)
        refine c_dec rfl (fun hg2 => ?_) (fun hg2 => by exfalso; omega)
        repeat (with_reducible first | refine c_seq ?_ | refine on_n ?_ | refine c_skip ?_ | refine c_block ?_ | refine on_r ?_ | refine c_ret ?_ | refine c_exit ?_ | refine on_e ?_ | refine ob_e ?_ | refine ob_n ?_ | refine ob_r ?_ | refine ob_x rfl ?_)
        refine c_ops ?_
        refine r_op (o_mov (s_no ?_))
        try dsimp only [putF, rd, Frame.get]
        refine r_op (o_mov (s_no ?_))
        try dsimp only [putF, rd, Frame.get]
        refine r_op (o_mov (s_no ?_))
        try dsimp only [putF, rd, Frame.get]
        refine r_op (o_mov (s_no ?_))
        try dsimp only [putF, rd, Frame.get]
        refine r_op (o_mov (s_no ?_))
        try dsimp only [putF, rd, Frame.get]
        refine r_op (o_call ?_)
        dsimp only [List.map, putF, rd, Frame.get]
        refine HC.use (rot_walk st m (mid + m - st) ls (by omega) (by omega) (by omega) hl hn) hS ?_; rintro r' m' S ⟨rfl, rfl⟩ hS
        refine s_no ?_
        try dsimp only [putF, rd, Frame.get]
        refine r_nil (c_keep ?_)
        try dsimp only [List.map]
        try dsimp only [putF, rd, Frame.get]
        rw [een] at hS
        repeat (with_reducible first | refine c_seq ?_ | refine on_n ?_ | refine c_skip ?_ | refine c_block ?_ | refine on_r ?_ | refine c_ret ?_ | refine c_exit ?_ | refine on_e ?_ | refine ob_e ?_ | refine ob_n ?_ | refine ob_r ?_ | refine ob_x rfl ?_)
        exact rest2 _ hS
      · have e := rot_id (l := ls) (a := st) (m := m) (b := (mid : Int) + m - st) (by omega) g2 g4
        rw [e] at rest2
        by_cases z1 : (st : Int) < m
        · refine c_ops ?_
          refine r_op (o_mov (s_no ?_))
          try dsimp only [putF, rd, Frame.get]
          refine r_op (o_mov (s_no ?_))
          try dsimp only [putF, rd, Frame.get]
          refine r_op (o_bin rfl (by first | trivial | (unfold inI64; omega)) (s_no ?_))
          try dsimp only [putF, rd, Frame.get]
          refine r_op ?_
          refine o_mov (s_dec (fun hg => ?_) (fun hg => by exfalso; omega))
          try dsimp only [putF, rd, Frame.get]
          first | ((with_reducible refine r_st ?_ ?_); (· rfl)) | ((with_reducible refine r_sf ?_ ?_); (· rfl)) | ((with_reducible refine r_su (xs := []) ?_ ?_); (· rfl)) | refine r_tt rfl (o_mov (s_no ?_))
          try dsimp only [putF, rd, Frame.get]
          first | ((with_reducible refine r_st ?_ ?_); (· rfl)) | ((with_reducible refine r_sf ?_ ?_); (· rfl)) | ((with_reducible refine r_su (xs := []) ?_ ?_); (· rfl)) | refine r_tt rfl (o_mov (s_no ?_))
          try dsimp only [putF, rd, Frame.get]
          first | ((with_reducible refine r_st ?_ ?_); (· rfl)) | ((with_reducible refine r_sf ?_ ?_); (· rfl)) | ((with_reducible refine r_su (xs := []) ?_ ?_); (· rfl)) | refine r_tt rfl (o_bin rfl (by first | trivial | (unfold inI64; omega)) (s_no ?_))
          try dsimp only [putF, rd, Frame.get]
          first | refine r_op (o_pickT rfl (s_no ?_)) | refine r_op (o_pickF rfl (s_no ?_))
          try dsimp only [putF, rd, Frame.get]
          refine r_nil (c_keep ?_)
          try dsimp only [List.map]
          try dsimp only [putF, rd, Frame.get]
          repeat (with_reducible first | refine c_seq ?_ | refine on_n ?_ | refine c_skip ?_ | refine c_block ?_ | refine on_r ?_ | refine c_ret ?_ | refine c_exit ?_ | refine on_e ?_ | refine ob_e ?_ | refine ob_n ?_ | refine ob_r ?_ | refine ob_x rfl ?_)
          refine c_dec rfl (fun hg2 => by exfalso; omega) (fun hg2 => ?_)
          repeat (with_reducible first | refine c_seq ?_ | refine on_n ?_ | refine c_skip ?_ | refine c_block ?_ | refine on_r ?_ | refine c_ret ?_ | refine c_exit ?_ | refine on_e ?_ | refine ob_e ?_ | refine ob_n ?_ | refine ob_r ?_ | refine ob_x rfl ?_)
          exact rest2 _ hS
        · refine c_ops ?_
          refine r_op (o_mov (s_no ?_))
          try dsimp only [putF, rd, Frame.get]
          refine r_op (o_mov (s_no ?_))
          try dsimp only [putF, rd, Frame.get]
          refine r_op (o_bin rfl (by first | trivial | (unfold inI64; omega)) (s_no ?_))
          try dsimp only [putF, rd, Frame.get]
          refine r_op ?_
          refine o_mov (s_dec (fun hg => by exfalso; omega) (fun hg => ?_))
          try dsimp only [putF, rd, Frame.get]
          first | ((with_reducible refine r_st ?_ ?_); (· rfl)) | ((with_reducible refine r_sf ?_ ?_); (· rfl)) | ((with_reducible refine r_su (xs := []) ?_ ?_); (· rfl)) | refine r_tt rfl (o_mov (s_no ?_))
          try dsimp only [putF, rd, Frame.get]
          first | ((with_reducible refine r_st ?_ ?_); (· rfl)) | ((with_reducible refine r_sf ?_ ?_); (· rfl)) | ((with_reducible refine r_su (xs := []) ?_ ?_); (· rfl)) | refine r_tt rfl (o_mov (s_no ?_))
          try dsimp only [putF, rd, Frame.get]
          first | ((with_reducible refine r_st ?_ ?_); (· rfl)) | ((with_reducible refine r_sf ?_ ?_); (· rfl)) | ((with_reducible refine r_su (xs := []) ?_ ?_); (· rfl)) | refine r_tt rfl (o_bin rfl (by first | trivial | (unfold inI64; omega)) (s_no ?_))
          try dsimp only [putF, rd, Frame.get]
          first | refine r_op (o_pickT rfl (s_no ?_)) | refine r_op (o_pickF rfl (s_no ?_))
          try dsimp only [putF, rd, Frame.get]
          refine r_nil (c_keep ?_)
          try dsimp only [List.map]
          try dsimp only [putF, rd, Frame.get]
          repeat (with_reducible first | refine c_seq ?_ | refine on_n ?_ | refine c_skip ?_ | refine c_block ?_ | refine on_r ?_ | refine c_ret ?_ | refine c_exit ?_ | refine on_e ?_ | refine ob_e ?_ | refine ob_n ?_ | refine ob_r ?_ | refine ob_x rfl ?_)
          refine c_bool rfl (fun h => by cases h) (fun _ => ?_)
          repeat (with_reducible first | refine c_seq ?_ | refine on_n ?_ | refine c_skip ?_ | refine c_block ?_ | refine on_r ?_ | refine c_ret ?_ | refine c_exit ?_ | refine on_e ?_ | refine ob_e ?_ | refine ob_n ?_ | refine ob_r ?_ | refine ob_x rfl ?_)
          exact rest2 _ hS
  repeat (with_reducible first | refine c_seq ?_ | refine on_n ?_ | refine c_skip ?_ | refine c_block ?_ | refine on_r ?_ | refine c_ret ?_ | refine c_exit ?_ | refine on_e ?_ | refine ob_e ?_ | refine ob_n ?_ | refine ob_r ?_ | refine ob_x rfl ?_)
  refine c_ops ?_
  refine r_op (o_mov (s_no ?_))
  try dsimp only [putF, rd, Frame.get]
  refine r_op (o_mov (s_no ?_))
  try dsimp only [putF, rd, Frame.get]
  refine r_op (o_bin rfl (by first | trivial | (unfold inI64; omega)) (s_no ?_))
  try dsimp only [putF, rd, Frame.get]
  refine r_nil (c_keep ?_)
  try dsimp only [List.map]
  try dsimp only [putF, rd, Frame.get]
  repeat (with_reducible first | refine c_seq ?_ | refine on_n ?_ | refine c_skip ?_ | refine c_block ?_ | refine on_r ?_ | refine c_ret ?_ | refine c_exit ?_ | refine on_e ?_ | refine ob_e ?_ | refine ob_n ?_ | refine ob_r ?_ | refine ob_x rfl ?_)
  have hS := hS.eq (m' := pt p (.row v 1 (I64 ls)) + (A + mf)) (by ac_rfl)
  refine c_dec rfl (fun c => ?_) (fun c => ?_)
  · repeat (with_reducible first | refine c_seq ?_ | refine on_n ?_ | refine c_skip ?_ | refine c_block ?_ | refine on_r ?_ | refine c_ret ?_ | refine c_exit ?_ | refine on_e ?_ | refine ob_e ?_ | refine ob_n ?_ | refine ob_r ?_ | refine ob_x rfl ?_)
    refine c_ops ?_
    refine r_op (o_mov (s_no ?_))
    try dsimp only [putF, rd, Frame.get]
    refine r_op (o_mov (s_no ?_))
    try dsimp only [putF, rd, Frame.get]
    refine r_op ?_
    refine o_bin rfl (by unfold inI64; omega) ?_; rw [show ((mid + m : Nat) : Int) - (b : Int) = ((mid + m - b : Nat) : Int) by omega]
    refine s_no ?_
    try dsimp only [putF, rd, Frame.get]
    refine r_op (o_mov (s_no ?_))
    try dsimp only [putF, rd, Frame.get]
    refine r_nil (c_keep ?_)
    try dsimp only [List.map]
    try dsimp only [putF, rd, Frame.get]
    repeat (with_reducible first | refine c_seq ?_ | refine on_n ?_ | refine c_skip ?_ | refine c_block ?_ | refine on_r ?_ | refine c_ret ?_ | refine c_exit ?_ | refine on_e ?_ | refine ob_e ?_ | refine ob_n ?_ | refine ob_r ?_ | refine ob_x rfl ?_)
    refine c_ops ?_
    refine r_op (o_mov (s_no ?_))
    try dsimp only [putF, rd, Frame.get]
    refine r_op (o_mov (s_no ?_))
    try dsimp only [putF, rd, Frame.get]
    refine r_nil (c_keep ?_)
    try dsimp only [List.map]
    try dsimp only [putF, rd, Frame.get]
    repeat (with_reducible first | refine c_seq ?_ | refine on_n ?_ | refine c_skip ?_ | refine c_block ?_ | refine on_r ?_ | refine c_ret ?_ | refine c_exit ?_ | refine on_e ?_ | refine ob_e ?_ | refine ob_n ?_ | refine ob_r ?_ | refine ob_x rfl ?_)
    exact rest1 _ _ _ (.inl ⟨by omega, rfl, rfl⟩) hS
  · repeat (with_reducible first | refine c_seq ?_ | refine on_n ?_ | refine c_skip ?_ | refine c_block ?_ | refine on_r ?_ | refine c_ret ?_ | refine c_exit ?_ | refine on_e ?_ | refine ob_e ?_ | refine ob_n ?_ | refine ob_r ?_ | refine ob_x rfl ?_)
    refine c_ops ?_
    refine r_op (o_mov (s_no ?_))
    try dsimp only [putF, rd, Frame.get]
    refine r_op (o_mov (s_no ?_))
    try dsimp only [putF, rd, Frame.get]
    refine r_nil (c_keep ?_)
    try dsimp only [List.map]
    try dsimp only [putF, rd, Frame.get]
    repeat (with_reducible first | refine c_seq ?_ | refine on_n ?_ | refine c_skip ?_ | refine c_block ?_ | refine on_r ?_ | refine c_ret ?_ | refine c_exit ?_ | refine on_e ?_ | refine ob_e ?_ | refine ob_n ?_ | refine ob_r ?_ | refine ob_x rfl ?_)
    refine c_ops ?_
    refine r_op (o_mov (s_no ?_))
    try dsimp only [putF, rd, Frame.get]
    refine r_op (o_mov (s_no ?_))
    try dsimp only [putF, rd, Frame.get]
    refine r_nil (c_keep ?_)
    try dsimp only [List.map]
    try dsimp only [putF, rd, Frame.get]
    repeat (with_reducible first | refine c_seq ?_ | refine on_n ?_ | refine c_skip ?_ | refine c_block ?_ | refine on_r ?_ | refine c_ret ?_ | refine c_exit ?_ | refine on_e ?_ | refine ob_e ?_ | refine ob_n ?_ | refine ob_r ?_ | refine ob_x rfl ?_)
    exact rest1 _ _ _ (.inr ⟨by omega, rfl, rfl⟩) hS
theorem sym_walk (hc : Cmp g cap A cf ok) (hcf : ∀ x y, cf x y < 0 ↔ lt x y) (hs : Swo lt) (hn : n ≤ 1000000) : ∀ N, SymSt lt p v n g cap A ok N
  | 0 => fun a m b ls _ _ _ h => absurd h (Nat.not_lt_zero _)
  | N + 1 => sym_step hc hcf hs hn N (sym_walk hc hcf hs hn N)
end
end Go.Proofs.Ytoiebdgnfjgcpaa.M
