/- The library's stable sort at integers: the whole: walked. Conditions: none. -/
import Derived.Test.YtoiebdgnfjgcpaaM2
set_option linter.unusedVariables false
set_option linter.unusedSimpArgs false
set_option maxRecDepth 100000
set_option maxHeartbeats 1000000
namespace Go.Proofs.Ytoiebdgnfjgcpaa.M
open Go.Vc Go.Fu
section
variable {lt : Int → Int → Prop} {p v n : Nat} {g : FuncId} {cap : List AVal} {A : HM} {cf : Int → Int → Int} {ok : Int → Prop}

theorem stb_walk (hc : Cmp g cap A cf ok) (hcf : ∀ x y, cf x y < 0 ↔ lt x y) (hs : Swo lt) (hn : n ≤ 1000000) (ls : List Int) (ho : ∀ x ∈ ls, ok x) (hl : ls.length = n) :
    HC Try.prog f_slices_stableCmpFunc_int_ [.sl p v 0 n, .int .i64 (n : Int), .fn (.func g) [] cap] (pt p (.row v 1 (I64 ls)) + A) fun r m' => r = .tup [] ∧ ∃ X, m' = pt p (.row v 1 (I64 (stab lt ls))) + (A + X) := by
  intro S mf hS
  refine slices_stableCmpFunc_int__ok.out rfl ?_ (by simp [slices_stableCmpFunc_int__fi])
  unfold vcFun slices_stableCmpFunc_int__fi
  dsimp only
  unfold slices_stableCmpFunc_int__c
  dsimp only [argF]
  repeat (with_reducible first | refine c_seq ?_ | refine on_n ?_ | refine c_skip ?_ | refine c_block ?_ | refine on_r ?_ | refine c_ret ?_ | refine c_exit ?_ | refine on_e ?_ | refine ob_e ?_ | refine ob_n ?_ | refine ob_r ?_ | refine ob_x rfl ?_)
  refine c_ops ?_
  refine r_op (o_mov (s_no ?_))
  try dsimp only [putF, rd, Frame.get]
  refine r_nil (c_keep ?_)
  try dsimp only [List.map]
  try dsimp only [putF, rd, Frame.get]
  repeat (with_reducible first | refine c_seq ?_ | refine on_n ?_ | refine c_skip ?_ | refine c_block ?_ | refine on_r ?_ | refine c_ret ?_ | refine c_exit ?_ | refine on_e ?_ | refine ob_e ?_ | refine ob_n ?_ | refine ob_r ?_ | refine ob_x rfl ?_)
  refine c_ops ?_
  refine r_op (o_mov (s_no ?_))
  try dsimp only [putF, rd, Frame.get]
  refine r_op (o_mov (s_no ?_))
  try dsimp only [putF, rd, Frame.get]
  refine r_op (o_mov (s_no ?_))
  try dsimp only [putF, rd, Frame.get]
  refine r_nil (c_keep ?_)
  try dsimp only [List.map]
  try dsimp only [putF, rd, Frame.get]
  repeat (with_reducible first | refine c_seq ?_ | refine on_n ?_ | refine c_skip ?_ | refine c_block ?_ | refine on_r ?_ | refine c_ret ?_ | refine c_exit ?_ | refine on_e ?_ | refine ob_e ?_ | refine ob_n ?_ | refine ob_r ?_ | refine ob_x rfl ?_)
  refine c_loop (fun k xs S => ∃ (a b : Nat) (d : List Int) (X : HM), xs = [.int .i64 (a : Int), .int .i64 (b : Int)] ∧ b = a + 20 ∧ a ≤ n ∧ (20 : Int) ∣ a ∧ Part lt ls d 0 n ∧ BlkTo lt d 20 a ∧ k = n - a ∧ Has S (pt p (.row v 1 (I64 d)) + (A + (X + mf)))) n ⟨0, 20, ls, HM.nil, rfl, rfl, Nat.zero_le _, Int.dvd_zero _, .refl _ _ _, .zero _ _, rfl, hS.eq (by rw [HM.nil_add]; ac_rfl)⟩ ?_
  clear hS
  rintro k xs S hl' ⟨a, b, d, X, rfl, hb, al, ad, hp, hbl, rfl, hS⟩
  dsimp only [zipF, List.map, Frame.get]
  have dl := hp.len
  have hok := part_ok hp ho
  repeat (with_reducible first | refine c_seq ?_ | refine on_n ?_ | refine c_skip ?_ | refine c_block ?_ | refine on_r ?_ | refine c_ret ?_ | refine c_exit ?_ | refine on_e ?_ | refine ob_e ?_ | refine ob_n ?_ | refine ob_r ?_ | refine ob_x rfl ?_)
  refine c_ops ?_
  refine r_op (o_mov (s_no ?_))
  try dsimp only [putF, rd, Frame.get]
  refine r_op (o_mov (s_no ?_))
  try dsimp only [putF, rd, Frame.get]
  refine r_op (o_bin rfl (by first | trivial | (unfold inI64; omega)) (s_no ?_))
  try dsimp only [putF, rd, Frame.get]
  refine r_nil (c_keep ?_)
  try dsimp only [List.map]
  try dsimp only [putF, rd, Frame.get]
  repeat (with_reducible first | refine c_seq ?_ | refine on_n ?_ | refine c_skip ?_ | refine c_block ?_ | refine on_r ?_ | refine c_ret ?_ | refine c_exit ?_ | refine on_e ?_ | refine ob_e ?_ | refine ob_n ?_ | refine ob_r ?_ | refine ob_x rfl ?_)
  refine c_dec rfl (fun hx => ?_) (fun hx => ?_)
  · obtain ⟨g1, g2⟩ := seg_spec hs (l := d) (a := a) (b := b) (by omega) (by omega) (by omega)
    have eb : (b : Int) = (a : Int) + 20 := by omega
    repeat (with_reducible first | refine c_seq ?_ | refine on_n ?_ | refine c_skip ?_ | refine c_block ?_ | refine on_r ?_ | refine c_ret ?_ | refine c_exit ?_ | refine on_e ?_ | refine ob_e ?_ | refine ob_n ?_ | refine ob_r ?_ | refine ob_x rfl ?_)
    refine c_ops ?_
    refine r_op (o_mov (s_no ?_))
    try dsimp only [putF, rd, Frame.get]
    refine r_op (o_mov (s_no ?_))
    try dsimp only [putF, rd, Frame.get]
    refine r_op (o_mov (s_no ?_))
    try dsimp only [putF, rd, Frame.get]
    refine r_op (o_mov (s_no ?_))
    try dsimp only [putF, rd, Frame.get]
    refine r_op (o_call ?_)
    dsimp only [List.map, putF, rd, Frame.get]
    refine ((ins_walk hc hcf hs a b d hok (by omega) (by omega) (by omega) hn) _ (X + mf) (hS.eq (by ac_rfl))).mono ?_; rintro r' S ⟨m', ⟨rfl, X', rfl⟩, hS⟩
    refine s_no ?_
    try dsimp only [putF, rd, Frame.get]
    refine r_nil (c_keep ?_)
    try dsimp only [List.map]
    try dsimp only [putF, rd, Frame.get]
    repeat (with_reducible first | refine c_seq ?_ | refine on_n ?_ | refine c_skip ?_ | refine c_block ?_ | refine on_r ?_ | refine c_ret ?_ | refine c_exit ?_ | refine on_e ?_ | refine ob_e ?_ | refine ob_n ?_ | refine ob_r ?_ | refine ob_x rfl ?_)
    refine c_ops ?_
    refine r_op (o_mov (s_no ?_))
    try dsimp only [putF, rd, Frame.get]
    refine r_op (o_mov (s_no ?_))
    try dsimp only [putF, rd, Frame.get]
    refine r_nil (c_keep ?_)
    try dsimp only [List.map]
    try dsimp only [putF, rd, Frame.get]
    repeat (with_reducible first | refine c_seq ?_ | refine on_n ?_ | refine c_skip ?_ | refine c_block ?_ | refine on_r ?_ | refine c_ret ?_ | refine c_exit ?_ | refine on_e ?_ | refine ob_e ?_ | refine ob_n ?_ | refine ob_r ?_ | refine ob_x rfl ?_)
    refine c_ops ?_
    refine r_op (o_mov (s_no ?_))
    try dsimp only [putF, rd, Frame.get]
    refine r_op (o_mov (s_no ?_))
    try dsimp only [putF, rd, Frame.get]
    refine r_op ?_
    refine o_bin rfl (by unfold inI64; omega) ?_; rw [show (b : Int) + 20 = ((b + 20 : Nat) : Int) by omega]
    refine s_no ?_
    try dsimp only [putF, rd, Frame.get]
    refine r_op (o_mov (s_no ?_))
    try dsimp only [putF, rd, Frame.get]
    refine r_nil (c_keep ?_)
    try dsimp only [List.map]
    try dsimp only [putF, rd, Frame.get]
    repeat (with_reducible first | refine c_seq ?_ | refine on_n ?_ | refine c_skip ?_ | refine c_block ?_ | refine on_r ?_ | refine c_ret ?_ | refine c_exit ?_ | refine on_e ?_ | refine ob_e ?_ | refine ob_n ?_ | refine ob_r ?_ | refine ob_x rfl ?_)
    refine ⟨n - b, by omega, b, b + 20, _, X' + X, rfl, rfl, by omega, by rw [eb]; exact Int.dvd_add ad (Int.dvd_refl _), hp.trans (g1.wide (by omega) (by omega)), ?_, rfl, hS.eq (by ac_rfl)⟩
    rw [eb] at g1 g2 ⊢
    exact hbl.step g1 g2 (by omega) (by omega) (by omega) ad
  · obtain ⟨g1, g2⟩ := seg_spec hs (l := d) (a := a) (b := n) (by omega) (by omega) (by omega)
    have hp1 := hp.trans (g1.wide (by omega) (Int.le_refl _))
    have hl1 := hp1.len
    have st0 : BlkFrom lt (seg lt d a n) 20 0 := blk_all (a := a) (fun c c0 c1 hcd => by
      have cw : c + 20 ≤ a := by
        have := Int.le_of_dvd (show 0 < (a : Int) - c by omega) (Int.dvd_sub ad hcd); omega
      exact srt_out g1 c0 (by omega) (.inl cw) (hbl c c0 c1 hcd)) ad (by omega) (by omega) (by rw [hl1, hl]; exact g2)
    repeat (with_reducible first | refine c_seq ?_ | refine on_n ?_ | refine c_skip ?_ | refine c_block ?_ | refine on_r ?_ | refine c_ret ?_ | refine c_exit ?_ | refine on_e ?_ | refine ob_e ?_ | refine ob_n ?_ | refine ob_r ?_ | refine ob_x rfl ?_)
    refine c_ops ?_
    refine r_op (o_mov (s_no ?_))
    try dsimp only [putF, rd, Frame.get]
    refine r_op (o_mov (s_no ?_))
    try dsimp only [putF, rd, Frame.get]
    refine r_op (o_mov (s_no ?_))
    try dsimp only [putF, rd, Frame.get]
    refine r_op (o_mov (s_no ?_))
    try dsimp only [putF, rd, Frame.get]
    refine r_op (o_call ?_)
    dsimp only [List.map, putF, rd, Frame.get]
    refine ((ins_walk hc hcf hs a n d hok (by omega) (by omega) (by omega) hn) _ (X + mf) (hS.eq (by ac_rfl))).mono ?_; rintro r' S ⟨m', ⟨rfl, X', rfl⟩, hS⟩
    refine s_no ?_
    try dsimp only [putF, rd, Frame.get]
    refine r_nil (c_keep ?_)
    try dsimp only [List.map]
    try dsimp only [putF, rd, Frame.get]
    repeat (with_reducible first | refine c_seq ?_ | refine on_n ?_ | refine c_skip ?_ | refine c_block ?_ | refine on_r ?_ | refine c_ret ?_ | refine c_exit ?_ | refine on_e ?_ | refine ob_e ?_ | refine ob_n ?_ | refine ob_r ?_ | refine ob_x rfl ?_)
    refine c_loop (fun k xs S => ∃ (w : Nat) (e : List Int) (X : HM), xs = [.int .i64 (w : Int)] ∧ 20 ≤ w ∧ Part lt ls e 0 n ∧ BlkFrom lt e w 0 ∧ k = n - w ∧ Has S (pt p (.row v 1 (I64 e)) + (A + (X + mf)))) (n - 20) ⟨20, _, X' + X, rfl, Nat.le_refl _, hp1, st0, rfl, hS.eq (by ac_rfl)⟩ ?_
    clear hS hp hbl dl hok g1 g2 hp1 hl1 st0 ad al hb hx
    rintro k xs S hl2 ⟨w, e, X, rfl, w0, hq, hw, rfl, hS⟩
    dsimp only [zipF, List.map, Frame.get]
    have el := hq.len
    repeat (with_reducible first | refine c_seq ?_ | refine on_n ?_ | refine c_skip ?_ | refine c_block ?_ | refine on_r ?_ | refine c_ret ?_ | refine c_exit ?_ | refine on_e ?_ | refine ob_e ?_ | refine ob_n ?_ | refine ob_r ?_ | refine ob_x rfl ?_)
    refine c_ops ?_
    refine r_op (o_mov (s_no ?_))
    try dsimp only [putF, rd, Frame.get]
    refine r_op (o_mov (s_no ?_))
    try dsimp only [putF, rd, Frame.get]
    refine r_op (o_bin rfl (by first | trivial | (unfold inI64; omega)) (s_no ?_))
    try dsimp only [putF, rd, Frame.get]
    refine r_nil (c_keep ?_)
    try dsimp only [List.map]
    try dsimp only [putF, rd, Frame.get]
    repeat (with_reducible first | refine c_seq ?_ | refine on_n ?_ | refine c_skip ?_ | refine c_block ?_ | refine on_r ?_ | refine c_ret ?_ | refine c_exit ?_ | refine on_e ?_ | refine ob_e ?_ | refine ob_n ?_ | refine ob_r ?_ | refine ob_x rfl ?_)
    refine c_dec rfl (fun hx => ?_) (fun hx => ?_)
    rotate_left
    · have fin := seg_eq hs hq (by rw [← hl, ← el]; exact blk_srt hw (by omega)) (Int.le_refl _) (by omega) (by omega)
      rw [← hl, seg_all] at fin
      repeat (with_reducible first | refine c_seq ?_ | refine on_n ?_ | refine c_skip ?_ | refine c_block ?_ | refine on_r ?_ | refine c_ret ?_ | refine c_exit ?_ | refine on_e ?_ | refine ob_e ?_ | refine ob_n ?_ | refine ob_r ?_ | refine ob_x rfl ?_)
      try dsimp only
      unfold slices_stableCmpFunc_int__r
      refine w_nil ?_
      try dsimp only [retV, Frame.get]
      rw [fin]
      exact ⟨_, ⟨rfl, X, rfl⟩, hS.eq (by ac_rfl)⟩
    repeat (with_reducible first | refine c_seq ?_ | refine on_n ?_ | refine c_skip ?_ | refine c_block ?_ | refine on_r ?_ | refine c_ret ?_ | refine c_exit ?_ | refine on_e ?_ | refine ob_e ?_ | refine ob_n ?_ | refine ob_r ?_ | refine ob_x rfl ?_)
    refine c_ops ?_
    refine r_op (o_mov (s_no ?_))
    try dsimp only [putF, rd, Frame.get]
    refine r_op ?_
    refine o_bin rfl (by unfold inI64; omega) ?_; rw [show 2 * (w : Int) = ((2 * w : Nat) : Int) by omega]
    refine s_no ?_
    try dsimp only [putF, rd, Frame.get]
    refine r_op (o_mov (s_no ?_))
    try dsimp only [putF, rd, Frame.get]
    refine r_op (o_mov (s_no ?_))
    try dsimp only [putF, rd, Frame.get]
    refine r_nil (c_keep ?_)
    try dsimp only [List.map]
    try dsimp only [putF, rd, Frame.get]
    repeat (with_reducible first | refine c_seq ?_ | refine on_n ?_ | refine c_skip ?_ | refine c_block ?_ | refine on_r ?_ | refine c_ret ?_ | refine c_exit ?_ | refine on_e ?_ | refine ob_e ?_ | refine ob_n ?_ | refine ob_r ?_ | refine ob_x rfl ?_)
    refine c_loop (fun k xs S => ∃ (a b : Nat) (e : List Int) (X : HM), xs = [.int .i64 (a : Int), .int .i64 (b : Int)] ∧ b = a + 2 * w ∧ a ≤ n ∧ (2 * (w : Int)) ∣ a ∧ Part lt ls e 0 n ∧ BlkTo lt e (2 * w) a ∧ BlkFrom lt e w a ∧ k = n - a ∧ Has S (pt p (.row v 1 (I64 e)) + (A + (X + mf)))) n ⟨0, 2 * w, e, X, rfl, by omega, Nat.zero_le _, Int.dvd_zero _, hq, .zero _ _, hw, rfl, hS⟩ ?_
    clear hS hq hw el
    rintro k xs S hl3 ⟨a, b, e, X, rfl, hb, al, ad, hq, hbl, hw, rfl, hS⟩
    dsimp only [zipF, List.map, Frame.get]
    have el := hq.len
    have hok := part_ok hq ho
    have b1 := hw a (Int.le_refl _) (by rw [Int.sub_self]; exact Int.dvd_zero _)
    have b2 := hw ((a : Int) + w) (by omega) ⟨1, by omega⟩
    rw [el, hl] at b1 b2
    have eaw : ((a + w : Nat) : Int) = (a : Int) + w := by omega
    have eb : (b : Int) = (a : Int) + 2 * w := by omega
    repeat (with_reducible first | refine c_seq ?_ | refine on_n ?_ | refine c_skip ?_ | refine c_block ?_ | refine on_r ?_ | refine c_ret ?_ | refine c_exit ?_ | refine on_e ?_ | refine ob_e ?_ | refine ob_n ?_ | refine ob_r ?_ | refine ob_x rfl ?_)
    refine c_ops ?_
    refine r_op (o_mov (s_no ?_))
    try dsimp only [putF, rd, Frame.get]
    refine r_op (o_mov (s_no ?_))
    try dsimp only [putF, rd, Frame.get]
    refine r_op (o_bin rfl (by first | trivial | (unfold inI64; omega)) (s_no ?_))
    try dsimp only [putF, rd, Frame.get]
    refine r_nil (c_keep ?_)
    try dsimp only [List.map]
    try dsimp only [putF, rd, Frame.get]
    repeat (with_reducible first | refine c_seq ?_ | refine on_n ?_ | refine c_skip ?_ | refine c_block ?_ | refine on_r ?_ | refine c_ret ?_ | refine c_exit ?_ | refine on_e ?_ | refine ob_e ?_ | refine ob_n ?_ | refine ob_r ?_ | refine ob_x rfl ?_)
    refine c_dec rfl (fun hy => ?_) (fun hy => ?_)
    · obtain ⟨g1, g2⟩ := seg_spec hs (l := e) (a := a) (b := b) (by omega) (by omega) (by omega)
      repeat (with_reducible first | refine c_seq ?_ | refine on_n ?_ | refine c_skip ?_ | refine c_block ?_ | refine on_r ?_ | refine c_ret ?_ | refine c_exit ?_ | refine on_e ?_ | refine ob_e ?_ | refine ob_n ?_ | refine ob_r ?_ | refine ob_x rfl ?_)
      refine c_ops ?_
      refine r_op (o_mov (s_no ?_))
      try dsimp only [putF, rd, Frame.get]
      refine r_op (o_mov (s_no ?_))
      try dsimp only [putF, rd, Frame.get]
      refine r_op (o_mov (s_no ?_))
      try dsimp only [putF, rd, Frame.get]
      refine r_op (o_mov (s_no ?_))
      try dsimp only [putF, rd, Frame.get]
      refine r_op ?_
      refine o_bin rfl (by unfold inI64; omega) ?_; rw [show (a : Int) + (w : Int) = ((a + w : Nat) : Int) by omega]
      refine s_no ?_
      try dsimp only [putF, rd, Frame.get]
      refine r_op (o_mov (s_no ?_))
      try dsimp only [putF, rd, Frame.get]
      refine r_op (o_mov (s_no ?_))
      try dsimp only [putF, rd, Frame.get]
      refine r_op (o_call ?_)
      dsimp only [List.map, putF, rd, Frame.get]
      refine ((sym_walk hc hcf hs hn (n + 1) a (a + w) b e (by omega) (by omega) (by omega) (by omega) (fun x y x0 xy yb => b1 x y x0 xy (by omega)) (fun x y x0 xy yb => b2 x y (by omega) xy (by omega)) hok (by omega)) _ (X + mf) (hS.eq (by ac_rfl))).mono ?_; rintro r' S ⟨m', ⟨rfl, X', rfl⟩, hS⟩
      refine s_no ?_
      try dsimp only [putF, rd, Frame.get]
      refine r_nil (c_keep ?_)
      try dsimp only [List.map]
      try dsimp only [putF, rd, Frame.get]
      repeat (with_reducible first | refine c_seq ?_ | refine on_n ?_ | refine c_skip ?_ | refine c_block ?_ | refine on_r ?_ | refine c_ret ?_ | refine c_exit ?_ | refine on_e ?_ | refine ob_e ?_ | refine ob_n ?_ | refine ob_r ?_ | refine ob_x rfl ?_)
      refine c_ops ?_
      refine r_op (o_mov (s_no ?_))
      try dsimp only [putF, rd, Frame.get]
      refine r_op (o_mov (s_no ?_))
      try dsimp only [putF, rd, Frame.get]
      refine r_nil (c_keep ?_)
      try dsimp only [List.map]
      try dsimp only [putF, rd, Frame.get]
      repeat (with_reducible first | refine c_seq ?_ | refine on_n ?_ | refine c_skip ?_ | refine c_block ?_ | refine on_r ?_ | refine c_ret ?_ | refine c_exit ?_ | refine on_e ?_ | refine ob_e ?_ | refine ob_n ?_ | refine ob_r ?_ | refine ob_x rfl ?_)
      refine c_ops ?_
      refine r_op (o_mov (s_no ?_))
      try dsimp only [putF, rd, Frame.get]
      refine r_op (o_mov (s_no ?_))
      try dsimp only [putF, rd, Frame.get]
      refine r_op ?_
      refine o_bin rfl (by unfold inI64; omega) ?_; rw [show 2 * (w : Int) = ((2 * w : Nat) : Int) by omega]
      refine s_no ?_
      try dsimp only [putF, rd, Frame.get]
      refine r_op ?_
      refine o_bin rfl (by unfold inI64; omega) ?_; rw [show (b : Int) + ((2 * w : Nat) : Int) = ((b + 2 * w : Nat) : Int) by omega]
      refine s_no ?_
      try dsimp only [putF, rd, Frame.get]
      refine r_op (o_mov (s_no ?_))
      try dsimp only [putF, rd, Frame.get]
      refine r_nil (c_keep ?_)
      try dsimp only [List.map]
      try dsimp only [putF, rd, Frame.get]
      repeat (with_reducible first | refine c_seq ?_ | refine on_n ?_ | refine c_skip ?_ | refine c_block ?_ | refine on_r ?_ | refine c_ret ?_ | refine c_exit ?_ | refine on_e ?_ | refine ob_e ?_ | refine ob_n ?_ | refine ob_r ?_ | refine ob_x rfl ?_)
      rw [eb] at g1 g2
      refine ⟨n - b, by omega, b, b + 2 * w, _, X' + X, rfl, rfl, by omega, by rw [eb]; exact Int.dvd_add ad (Int.dvd_refl _), hq.trans (g1.wide (by omega) (by omega)), ?_, ?_, rfl, by rw [← eb]; exact hS.eq (by ac_rfl)⟩
      · rw [eb]; exact hbl.step g1 g2 (by omega) (by omega) (by omega) ad
      · rw [eb]; exact hw.step g1 (by omega) (by omega)
    repeat (with_reducible first | refine c_seq ?_ | refine on_n ?_ | refine c_skip ?_ | refine c_block ?_ | refine on_r ?_ | refine c_ret ?_ | refine c_exit ?_ | refine on_e ?_ | refine ob_e ?_ | refine ob_n ?_ | refine ob_r ?_ | refine ob_x rfl ?_)
    refine c_join fun K1 hK1 => ?_
    have rest : ∀ (e : List Int) (X : HM) (S : Store), Part lt ls e 0 n → BlkFrom lt e (2 * w) 0 → Has S (pt p (.row v 1 (I64 e)) + (A + (X + mf))) → K1 [] S := by
      intro e X S h1 h2 hS
      refine hK1 _ _ rfl ?_
      dsimp only [zipF, List.map, Frame.get]
      repeat (with_reducible first | refine c_seq ?_ | refine on_n ?_ | refine c_skip ?_ | refine c_block ?_ | refine on_r ?_ | refine c_ret ?_ | refine c_exit ?_ | refine on_e ?_ | refine ob_e ?_ | refine ob_n ?_ | refine ob_r ?_ | refine ob_x rfl ?_)
      refine c_ops ?_
      refine r_op (o_mov (s_no ?_))
      try dsimp only [putF, rd, Frame.get]
      refine r_op ?_
      refine o_bin rfl (by unfold inI64; omega) ?_; rw [show (w : Int) * 2 = ((2 * w : Nat) : Int) by omega]
      refine s_no ?_
      try dsimp only [putF, rd, Frame.get]
      refine r_op (o_mov (s_no ?_))
      try dsimp only [putF, rd, Frame.get]
      refine r_nil (c_keep ?_)
      try dsimp only [List.map]
      try dsimp only [putF, rd, Frame.get]
      repeat (with_reducible first | refine c_seq ?_ | refine on_n ?_ | refine c_skip ?_ | refine c_block ?_ | refine on_r ?_ | refine c_ret ?_ | refine c_exit ?_ | refine on_e ?_ | refine ob_e ?_ | refine ob_n ?_ | refine ob_r ?_ | refine ob_x rfl ?_)
      exact ⟨n - 2 * w, by omega, 2 * w, e, X, rfl, by omega, h1, by rw [show ((2 * w : Nat) : Int) = 2 * (w : Int) by omega]; exact h2, rfl, hS⟩
    repeat (with_reducible first | refine c_seq ?_ | refine on_n ?_ | refine c_skip ?_ | refine c_block ?_ | refine on_r ?_ | refine c_ret ?_ | refine c_exit ?_ | refine on_e ?_ | refine ob_e ?_ | refine ob_n ?_ | refine ob_r ?_ | refine ob_x rfl ?_)
    refine c_ops ?_
    refine r_op (o_mov (s_no ?_))
    try dsimp only [putF, rd, Frame.get]
    refine r_op (o_mov (s_no ?_))
    try dsimp only [putF, rd, Frame.get]
    refine r_op ?_
    refine o_bin rfl (by unfold inI64; omega) ?_; rw [show (a : Int) + (w : Int) = ((a + w : Nat) : Int) by omega]
    refine s_no ?_
    try dsimp only [putF, rd, Frame.get]
    refine r_op (o_mov (s_no ?_))
    try dsimp only [putF, rd, Frame.get]
    refine r_nil (c_keep ?_)
    try dsimp only [List.map]
    try dsimp only [putF, rd, Frame.get]
    repeat (with_reducible first | refine c_seq ?_ | refine on_n ?_ | refine c_skip ?_ | refine c_block ?_ | refine on_r ?_ | refine c_ret ?_ | refine c_exit ?_ | refine on_e ?_ | refine ob_e ?_ | refine ob_n ?_ | refine ob_r ?_ | refine ob_x rfl ?_)
    refine c_ops ?_
    refine r_op (o_mov (s_no ?_))
    try dsimp only [putF, rd, Frame.get]
    refine r_op (o_mov (s_no ?_))
    try dsimp only [putF, rd, Frame.get]
    refine r_op (o_bin rfl (by first | trivial | (unfold inI64; omega)) (s_no ?_))
    try dsimp only [putF, rd, Frame.get]
    refine r_nil (c_keep ?_)
    try dsimp only [List.map]
    try dsimp only [putF, rd, Frame.get]
    repeat (with_reducible first | refine c_seq ?_ | refine on_n ?_ | refine c_skip ?_ | refine c_block ?_ | refine on_r ?_ | refine c_ret ?_ | refine c_exit ?_ | refine on_e ?_ | refine ob_e ?_ | refine ob_n ?_ | refine ob_r ?_ | refine ob_x rfl ?_)
    refine c_dec rfl (fun hz => ?_) (fun hz => ?_)
    · obtain ⟨g1, g2⟩ := seg_spec hs (l := e) (a := a) (b := n) (by omega) (by omega) (by omega)
      have hq1 := hq.trans (g1.wide (by omega) (Int.le_refl _))
      have hl1 := hq1.len
      repeat (with_reducible first | refine c_seq ?_ | refine on_n ?_ | refine c_skip ?_ | refine c_block ?_ | refine on_r ?_ | refine c_ret ?_ | refine c_exit ?_ | refine on_e ?_ | refine ob_e ?_ | refine ob_n ?_ | refine ob_r ?_ | refine ob_x rfl ?_)
      refine c_ops ?_
      refine r_op (o_mov (s_no ?_))
      try dsimp only [putF, rd, Frame.get]
      refine r_op (o_mov (s_no ?_))
      try dsimp only [putF, rd, Frame.get]
      refine r_op (o_mov (s_no ?_))
      try dsimp only [putF, rd, Frame.get]
      refine r_op (o_mov (s_no ?_))
      try dsimp only [putF, rd, Frame.get]
      refine r_op (o_mov (s_no ?_))
      try dsimp only [putF, rd, Frame.get]
      refine r_op (o_call ?_)
      dsimp only [List.map, putF, rd, Frame.get]
      refine ((sym_walk hc hcf hs hn (n + 1) a (a + w) n e (by omega) (by omega) (by omega) (by omega) (fun x y x0 xy yb => b1 x y x0 xy (by omega)) (fun x y x0 xy yb => b2 x y (by omega) xy (by omega)) hok (by omega)) _ (X + mf) (hS.eq (by ac_rfl))).mono ?_; rintro r' S ⟨m', ⟨rfl, X', rfl⟩, hS⟩
      refine s_no ?_
      try dsimp only [putF, rd, Frame.get]
      refine r_nil (c_keep ?_)
      try dsimp only [List.map]
      try dsimp only [putF, rd, Frame.get]
      repeat (with_reducible first | refine c_seq ?_ | refine on_n ?_ | refine c_skip ?_ | refine c_block ?_ | refine on_r ?_ | refine c_ret ?_ | refine c_exit ?_ | refine on_e ?_ | refine ob_e ?_ | refine ob_n ?_ | refine ob_r ?_ | refine ob_x rfl ?_)
      refine rest _ (X' + X) _ hq1 ?_ (hS.eq (by ac_rfl))
      refine blk_all (a := a) (fun c c0 c1 hcd => ?_) ad (by omega) (by omega) (by rw [hl1, hl]; exact g2)
      have cw : c + 2 * w ≤ a := by
        have := Int.le_of_dvd (show 0 < (a : Int) - c by omega) (Int.dvd_sub ad hcd); omega
      exact srt_out g1 c0 (by omega) (.inl cw) (hbl c c0 c1 hcd)
    · repeat (with_reducible first | refine c_seq ?_ | refine on_n ?_ | refine c_skip ?_ | refine c_block ?_ | refine on_r ?_ | refine c_ret ?_ | refine c_exit ?_ | refine on_e ?_ | refine ob_e ?_ | refine ob_n ?_ | refine ob_r ?_ | refine ob_x rfl ?_)
      refine rest _ X _ hq ?_ hS
      exact blk_all hbl ad (by omega) (by omega) fun x y x0 xy yb => b1 x y x0 xy (by omega)

theorem sst_walk (hc : Cmp g cap A cf ok) (hcf : ∀ x y, cf x y < 0 ↔ lt x y) (hs : Swo lt) (hn : n ≤ 1000000) (ls : List Int) (ho : ∀ x ∈ ls, ok x) (hl : ls.length = n) :
    HC Try.prog f_slices_SortStableFunc___int_int_ [.sl p v 0 n, .fn (.func g) [] cap] (pt p (.row v 1 (I64 ls)) + A) fun r m' => r = .tup [] ∧ ∃ X, m' = pt p (.row v 1 (I64 (stab lt ls))) + (A + X) := by
  intro S mf hS
  refine slices_SortStableFunc___int_int__ok.out rfl ?_ (by simp [slices_SortStableFunc___int_int__fi])
  unfold vcFun slices_SortStableFunc___int_int__fi
  dsimp only
  unfold slices_SortStableFunc___int_int__c
  dsimp only [argF]
  repeat (with_reducible first | refine c_seq ?_ | refine on_n ?_ | refine c_skip ?_ | refine c_block ?_ | refine on_r ?_ | refine c_ret ?_ | refine c_exit ?_ | refine on_e ?_ | refine ob_e ?_ | refine ob_n ?_ | refine ob_r ?_ | refine ob_x rfl ?_)
  refine c_ops ?_
  refine r_op (o_mov (s_no ?_))
  try dsimp only [putF, rd, Frame.get]
  refine r_op (o_mov (s_no ?_))
  try dsimp only [putF, rd, Frame.get]
  refine r_op (o_len rfl (s_no ?_))
  try dsimp only [putF, rd, Frame.get]
  refine r_op (o_mov (s_no ?_))
  try dsimp only [putF, rd, Frame.get]
  refine r_op (o_call ?_)
  dsimp only [List.map, putF, rd, Frame.get]
  refine ((stb_walk hc hcf hs hn ls ho hl) _ mf hS).mono ?_; rintro r' S ⟨m', ⟨rfl, X', rfl⟩, hS⟩
  refine s_no ?_
  try dsimp only [putF, rd, Frame.get]
  refine r_nil (c_keep ?_)
  try dsimp only [List.map]
  try dsimp only [putF, rd, Frame.get]
  repeat (with_reducible first | refine c_seq ?_ | refine on_n ?_ | refine c_skip ?_ | refine c_block ?_ | refine on_r ?_ | refine c_ret ?_ | refine c_exit ?_ | refine on_e ?_ | refine ob_e ?_ | refine ob_n ?_ | refine ob_r ?_ | refine ob_x rfl ?_)
  try dsimp only
  unfold slices_SortStableFunc___int_int__r
  refine w_nil ?_
  try dsimp only [retV, Frame.get]
  exact ⟨_, ⟨rfl, X', rfl⟩, hS⟩
end
end Go.Proofs.Ytoiebdgnfjgcpaa.M
