/- The library's slices of a sequence, sorted; its search; a text found among ends: walked. Conditions: none. -/
import Derived.Test.YtoiebdgnfjgcpaaGS
import Derived.Test.YtoiebdgnfjgcpaaVpSF
import Derived.Test.YtoiebdgnfjgcpaaVpK
import Derived.Test.YtoiebdgnfjgcpaaVh7
import Derived.Test.YtoiebdgnfjgcpaaVyS
import Derived.Test.YtoiebdgnfjgcpaaLayI
set_option linter.unusedVariables false
set_option linter.unusedSimpArgs false
set_option maxRecDepth 100000
namespace Go.Proofs.Ytoiebdgnfjgcpaa.S
open Go.Vc Go.Fu
theorem sort_hc {P : Program} {ρ : Go.Shelf.Ren} (L : SlLaysM.n5 P ρ) (ha : callable P (ρ.f 5) = true) {p v n : Nat} {ls : List Int} (hn : ls.length = n) (hl : ls.length < 4611686018427387904) :
    HC P (ρ.f 5) [.sl p v 0 n] (pt p (.row v 1 (ints64 ls))) fun r m' => r = .tup [] ∧ m' = pt p (.row v 1 (ints64 (sortL ls))) := by
  subst hn
  intro S mf hS
  exact (isort_calls L ha hS.get hl).mono fun r S' ⟨h1, h2⟩ => ⟨_, ⟨h1, rfl⟩, h2 ▸ hS.put _⟩
theorem sort_nil_hc {P : Program} {ρ : Go.Shelf.Ren} (L : SlLaysM.n5 P ρ) (ha : callable P (ρ.f 5) = true) : HC P (ρ.f 5) [.nils] HM.nil fun r m' => r = .tup [] ∧ m' = HM.nil := by
  intro S mf hS
  refine ⟨fun E fz w vals st hrel => ?_⟩
  simp only [RelL] at hrel
  obtain ⟨v1, _, rfl, r1, rfl⟩ := hrel
  simp only [Rel] at r1
  subst r1
  refine .inl ⟨ha, (AnyM.slices_Sort_int_none L none 0 w).mono ?_⟩
  rintro e w' ⟨rfl, rfl⟩
  exact ⟨.tup [], _, .tuple #[], E, fz, rfl, Ext.refl, st, by simp only [Rel, RelL]; exact ⟨[], rfl, rfl⟩, _, ⟨rfl, rfl⟩, hS⟩
theorem sort_con : ∃ ρ, SlLaysM.n5 Try.prog ρ ∧ ρ.f 5 = f_slices_Sort___int_int_ := ⟨_, Try.sortI, rfl⟩
theorem Sort_hc {x : AVal} {ls : List Int} {ml : HM} (hs : SlW 1 x (ints64 ls) ls.length ml) (hl : ls.length < 4611686018427387904) : HC Try.prog f_slices_Sort___int_int_ [x] ml fun r m' => r = .tup [] ∧ SlW 1 x (ints64 (sortL ls)) ls.length m' := by
  obtain ⟨ρ, L, e⟩ := sort_con
  rw [← e]
  have ha : callable Try.prog (ρ.f 5) = true := by rw [e]; kernel_rfl
  rcases hs with ⟨rfl, h1, h2, rfl⟩ | ⟨p, v, rfl, rfl, h⟩
  · have h0 : ls = [] := List.length_eq_zero_iff.1 h1
    subst h0
    exact (sort_nil_hc L ha).mono fun r m' ⟨h3, h4⟩ => ⟨h3, .inl ⟨rfl, rfl, by simp [sortL], h4⟩⟩
  · exact (sort_hc L ha rfl hl).mono fun r m' ⟨h3, h4⟩ => ⟨h3, .inr ⟨p, v, rfl, h4, by rw [List.length_map, sortL_length]; omega⟩⟩
def intA (i : Int) : List AVal := [.int .i64 i]
theorem ints_at {sa : List Int} {k : Nat} (h : k < sa.length) : takeN 1 ((ints64 sa).drop k) = some [.int .i64 (gt sa (k : Int))] := by
  rw [List.drop_eq_getElem_cons (by simpa using h), gt_nat_in h]
  simp [takeN]

theorem values_seq {sa : List Int} {l1 v1 : Nat} (hl : sa.length ≤ 1000000) : HSeq Try.prog f_slices_Values___int_int__1 [.ptr l1 v1 0] (sa.map intA) (pt l1 (.row v1 0 [.ros sa.length (ints64 sa)])) := by
  intro b C hY c h0 S mf hS
  have hlen : (sa.map intA).length = sa.length := List.length_map ..
  generalize hn : sa.length = n at *
  refine slices_Values___int_int__1_ok.out rfl ?_ (by simp [slices_Values___int_int__1_fi])
  unfold vcFun slices_Values___int_int__1_fi
  dsimp only
  unfold slices_Values___int_int__1_c
  dsimp only [argF]
  repeat (with_reducible first | refine c_seq ?_ | refine on_n ?_ | refine c_skip ?_ | refine c_block ?_ | refine on_r ?_ | refine c_ret ?_ | refine c_exit ?_ | refine on_e ?_ | refine ob_e ?_ | refine ob_n ?_ | refine ob_r ?_ | refine ob_x rfl ?_)
  refine c_ops ?_
  first | refine r_op (o_load hS rfl rfl rfl rfl (s_no ?_)) | refine r_op (o_load hS rfl rfl (by assumption) rfl (s_no ?_)) | refine r_op (o_loadR rfl rfl rfl (s_no ?_)) | refine r_op (o_loadR rfl (by assumption) rfl (s_no ?_))
  try dsimp only [putF, rd, Frame.get]
  refine r_op (o_len rfl (s_no ?_))
  try dsimp only [putF, rd, Frame.get]
  refine r_op (o_mov (s_no ?_))
  try dsimp only [putF, rd, Frame.get]
  refine r_nil (c_keep ?_)
  try dsimp only [List.map]
  try dsimp only [putF, rd, Frame.get]
  repeat (with_reducible first | refine c_seq ?_ | refine on_n ?_ | refine c_skip ?_ | refine c_block ?_ | refine on_r ?_ | refine c_ret ?_ | refine c_exit ?_ | refine on_e ?_ | refine ob_e ?_ | refine ob_n ?_ | refine ob_r ?_ | refine ob_x rfl ?_)
  refine c_loop (fun k xs S => ∃ (j : Nat) (c : HM), xs = [.int .i64 (j : Int)] ∧ j ≤ n ∧ k = n - j ∧ C j c ∧ Has S ((pt l1 (.row v1 0 [.ros n (ints64 sa)]) + c) + mf)) n ⟨0, c, rfl, Nat.zero_le _, rfl, h0, hS⟩ ?_
  clear hS h0 c
  rintro k xs S hl' ⟨j, c, rfl, hj, rfl, hC, hS⟩
  dsimp only [zipF, List.map, Frame.get]
  repeat (with_reducible first | refine c_seq ?_ | refine on_n ?_ | refine c_skip ?_ | refine c_block ?_ | refine on_r ?_ | refine c_ret ?_ | refine c_exit ?_ | refine on_e ?_ | refine ob_e ?_ | refine ob_n ?_ | refine ob_r ?_ | refine ob_x rfl ?_)
  refine c_ops ?_
  refine r_op (o_bin rfl (by first | trivial | (unfold inI64; omega)) (s_no ?_))
  try dsimp only [putF, rd, Frame.get]
  refine r_nil (c_keep ?_)
  try dsimp only [List.map]
  try dsimp only [putF, rd, Frame.get]
  repeat (with_reducible first | refine c_seq ?_ | refine on_n ?_ | refine c_skip ?_ | refine c_block ?_ | refine on_r ?_ | refine c_ret ?_ | refine c_exit ?_ | refine on_e ?_ | refine ob_e ?_ | refine ob_n ?_ | refine ob_r ?_ | refine ob_x rfl ?_)
  refine c_dec rfl (fun hlt => ?_) (fun hlt => ?_)
  · have hj' : j < n := by omega
    have ht := ints_at (sa := sa) (k := j) (by omega)
    have ht' : takeN 1 ((ints64 sa).drop (j * 1)) = some [.int .i64 (gt sa (j : Int))] := by rw [Nat.mul_one]; exact ht
    have hx : (sa.map intA)[j]? = some (intA (gt sa (j : Int))) := by
      rw [List.getElem?_map, List.getElem?_eq_getElem (show j < sa.length by omega), gt_nat_in (by omega)]; rfl
    repeat (with_reducible first | refine c_seq ?_ | refine on_n ?_ | refine c_skip ?_ | refine c_block ?_ | refine on_r ?_ | refine c_ret ?_ | refine c_exit ?_ | refine on_e ?_ | refine ob_e ?_ | refine ob_n ?_ | refine ob_r ?_ | refine ob_x rfl ?_)
    refine c_ops ?_
    first | refine r_op (o_iaddr hS rfl rfl rfl (by omega) (s_no ?_)) | refine r_op (o_iaddrR rfl rfl (by omega) (by assumption) (s_no ?_)) | refine r_op (o_iaddrA rfl rfl (by omega) (s_no ?_)) | refine r_op (o_iaddrAR rfl rfl (by omega) (s_no ?_))
    try dsimp only [putF, rd, Frame.get]
    try simp only [Nat.zero_mul, Nat.mul_zero, Nat.mul_one, Nat.add_zero, Nat.zero_add, Nat.sub_zero, Nat.reduceAdd, Nat.reduceMul]
    first | refine r_op (o_load hS rfl rfl rfl rfl (s_no ?_)) | refine r_op (o_load hS rfl rfl (by assumption) rfl (s_no ?_)) | refine r_op (o_loadR rfl rfl rfl (s_no ?_)) | refine r_op (o_loadR rfl (by assumption) rfl (s_no ?_))
    try dsimp only [putF, rd, Frame.get]
    refine r_op (o_mov (s_no ?_))
    try dsimp only [putF, rd, Frame.get]
    refine r_nil (c_keep ?_)
    try dsimp only [List.map]
    try dsimp only [putF, rd, Frame.get]
    repeat (with_reducible first | refine c_seq ?_ | refine on_n ?_ | refine c_skip ?_ | refine c_block ?_ | refine on_r ?_ | refine c_ret ?_ | refine c_exit ?_ | refine on_e ?_ | refine ob_e ?_ | refine ob_n ?_ | refine ob_r ?_ | refine ob_x rfl ?_)
    refine c_ops ?_
    refine r_op (o_mov (s_no ?_))
    try dsimp only [putF, rd, Frame.get]
    refine r_op (o_mov (s_no ?_))
    try dsimp only [putF, rd, Frame.get]
    refine r_op ?_
    refine o_yield rfl ?_; dsimp only [List.map, putF, rd, Frame.get]; refine (hY j _ _ hx hC).use hS fun r m' S h hS => ?_; obtain ⟨rfl, hC'⟩ := h
    refine s_no ?_
    try dsimp only [putF, rd, Frame.get]
    refine r_op (o_not rfl (s_no ?_))
    try dsimp only [putF, rd, Frame.get]
    refine r_nil (c_keep ?_)
    try dsimp only [List.map]
    try dsimp only [putF, rd, Frame.get]
    repeat (with_reducible first | refine c_seq ?_ | refine on_n ?_ | refine c_skip ?_ | refine c_block ?_ | refine on_r ?_ | refine c_ret ?_ | refine c_exit ?_ | refine on_e ?_ | refine ob_e ?_ | refine ob_n ?_ | refine ob_r ?_ | refine ob_x rfl ?_)
    refine c_bool (c := !true) rfl (fun h => by cases h) (fun _ => ?_)
    repeat (with_reducible first | refine c_seq ?_ | refine on_n ?_ | refine c_skip ?_ | refine c_block ?_ | refine on_r ?_ | refine c_ret ?_ | refine c_exit ?_ | refine on_e ?_ | refine ob_e ?_ | refine ob_n ?_ | refine ob_r ?_ | refine ob_x rfl ?_)
    refine c_ops ?_
    refine r_op (o_bin rfl (by first | trivial | (unfold inI64; omega)) (s_no ?_))
    try dsimp only [putF, rd, Frame.get]
    refine r_op (o_mov (s_no ?_))
    try dsimp only [putF, rd, Frame.get]
    refine r_nil (c_keep ?_)
    try dsimp only [List.map]
    try dsimp only [putF, rd, Frame.get]
    repeat (with_reducible first | refine c_seq ?_ | refine on_n ?_ | refine c_skip ?_ | refine c_block ?_ | refine on_r ?_ | refine c_ret ?_ | refine c_exit ?_ | refine on_e ?_ | refine ob_e ?_ | refine ob_n ?_ | refine ob_r ?_ | refine ob_x rfl ?_)
    exact ⟨n - (j + 1), by omega, j + 1, _, rfl, by omega, rfl, hC', hS⟩
  · obtain rfl : j = n := by omega
    repeat (with_reducible first | refine c_seq ?_ | refine on_n ?_ | refine c_skip ?_ | refine c_block ?_ | refine on_r ?_ | refine c_ret ?_ | refine c_exit ?_ | refine on_e ?_ | refine ob_e ?_ | refine ob_n ?_ | refine ob_r ?_ | refine ob_x rfl ?_)
    try dsimp only
    unfold slices_Values___int_int__1_r
    refine w_nil ?_
    try dsimp only [retV, Frame.get]
    refine ⟨_, ⟨c, pt l1 (.row v1 0 [.ros j (ints64 sa)]), by rw [hlen]; exact hC, rfl⟩, hS.eq (by ac_rfl)⟩

theorem Values_walk {x : AVal} (hx : cellsF x = some [x]) : HC Try.prog f_slices_Values___int_int_ [x] HM.nil fun r m' => ∃ l1 v1, r = .fn (.func f_slices_Values___int_int__1) [] [.ptr l1 v1 0] ∧ m' = pt l1 (.row v1 0 [x]) := by
  intro S mf hS
  rw [HM.nil_add] at hS
  refine slices_Values___int_int__ok.out rfl ?_ (by simp [slices_Values___int_int__fi])
  unfold vcFun slices_Values___int_int__fi
  dsimp only
  unfold slices_Values___int_int__c
  dsimp only [argF]
  repeat (with_reducible first | refine c_seq ?_ | refine on_n ?_ | refine c_skip ?_ | refine c_block ?_ | refine on_r ?_ | refine c_ret ?_ | refine c_exit ?_ | refine on_e ?_ | refine ob_e ?_ | refine ob_n ?_ | refine ob_r ?_ | refine ob_x rfl ?_)
  refine c_ops ?_
  refine r_op ?_
  refine o_box hS hx fun v1 l1 S hS => ?_
  refine s_no ?_
  try dsimp only [putF, rd, Frame.get]
  refine r_op (o_mov (s_no ?_))
  try dsimp only [putF, rd, Frame.get]
  refine r_nil (c_keep ?_)
  try dsimp only [List.map]
  try dsimp only [putF, rd, Frame.get]
  repeat (with_reducible first | refine c_seq ?_ | refine on_n ?_ | refine c_skip ?_ | refine c_block ?_ | refine on_r ?_ | refine c_ret ?_ | refine c_exit ?_ | refine on_e ?_ | refine ob_e ?_ | refine ob_n ?_ | refine ob_r ?_ | refine ob_x rfl ?_)
  refine c_ops ?_
  refine r_op (o_mkfunc (s_no ?_))
  try dsimp only [putF, rd, Frame.get]
  refine r_op (o_mov (s_no ?_))
  try dsimp only [putF, rd, Frame.get]
  refine r_nil (c_keep ?_)
  try dsimp only [List.map]
  try dsimp only [putF, rd, Frame.get]
  repeat (with_reducible first | refine c_seq ?_ | refine on_n ?_ | refine c_skip ?_ | refine c_block ?_ | refine on_r ?_ | refine c_ret ?_ | refine c_exit ?_ | refine on_e ?_ | refine ob_e ?_ | refine ob_n ?_ | refine ob_r ?_ | refine ob_x rfl ?_)
  try dsimp only
  unfold slices_Values___int_int__r
  refine w_tmp (w_nil ?_)
  try dsimp only [retV, Frame.get]
  exact ⟨_, ⟨l1, v1, rfl, rfl⟩, hS⟩

theorem AppendSeq_walk {g : FuncId} {cap : List AVal} {L : List Int} {It : HM} (hgc : callable Try.prog g = true) (hseq : HSeq Try.prog g cap (L.map intA) It) (hL : L.length ≤ 1000000) :
    HC Try.prog f_slices_AppendSeq___int_int_ [.nils, .fn (.func g) [] cap] It fun r m' => ∃ ml X, SlW 1 r (ints64 L) L.length ml ∧ m' = ml + X := by
  intro S mf hS
  refine slices_AppendSeq___int_int__ok.out (by simp) ?_
  unfold vcFunL slices_AppendSeq___int_int__c
  dsimp only [argF]
  refine l_seqR ?_
  refine c_ops ?_
  refine r_op (o_box hS rfl fun v2 l2 S hS => s_no ?_)
  try dsimp only [putF, rd, Frame.get]
  try dsimp only [putF, rd, Frame.get, setCells, over] at hS
  refine r_op (o_mov (s_no ?_))
  try dsimp only [putF, rd, Frame.get]
  refine r_nil (c_keep ?_)
  try dsimp only [List.map]
  try dsimp only [putF, rd, Frame.get]
  repeat (with_reducible first | refine c_seq ?_ | refine on_n ?_ | refine c_skip ?_ | refine c_block ?_ | refine on_r ?_ | refine c_ret ?_ | refine c_exit ?_ | refine on_e ?_ | refine ob_e ?_ | refine ob_n ?_ | refine ob_r ?_ | refine ob_x rfl ?_)
  refine l_seqL (l_seqR ?_)
  refine c_ops ?_
  refine r_op (o_mov (s_no ?_))
  try dsimp only [putF, rd, Frame.get]
  refine r_nil (c_keep ?_)
  try dsimp only [List.map]
  try dsimp only [putF, rd, Frame.get]
  repeat (with_reducible first | refine c_seq ?_ | refine on_n ?_ | refine c_skip ?_ | refine c_block ?_ | refine on_r ?_ | refine c_ret ?_ | refine c_exit ?_ | refine on_e ?_ | refine ob_e ?_ | refine ob_n ?_ | refine ob_r ?_ | refine ob_x rfl ?_)
  refine l_block ?_
  refine l_range (fun i d => ∃ x ml, SlW 1 x (ints64 (L.take i)) i ml ∧ d = pt l2 (.row v2 0 [x]) + ml)
    (fun i F => ∃ s, L[i]? = some s ∧ F = [(2, .ptr l2 v2 0), (5, .int .i64 s)]) rfl hgc hseq (hS.eq (m' := (It + (pt l2 (.row v2 0 [.nils]) + HM.nil)) + mf) (by rw [HM.add_nil]; ac_rfl)) ⟨.nils, HM.nil, SlW.nil, rfl⟩ ?_ ?_ ?_ ?_
  · intro a ha
    obtain ⟨l, _, rfl⟩ := List.mem_map.1 ha
    rfl
  · intro i a S hi
    rw [List.getElem?_map] at hi
    cases hs : L[i]? with
    | none => rw [hs] at hi; cases hi
    | some s =>
      rw [hs] at hi
      cases hi
      unfold intA
      dsimp only [putsF]
      refine c_ops ?_
      refine r_op (o_mov (s_no ?_))
      try dsimp only [putF, rd, Frame.get]
      refine r_nil (c_keep ?_)
      try dsimp only [List.map]
      try dsimp only [putF, rd, Frame.get]
      exact ⟨rfl, rfl, s, rfl, rfl⟩
  · rintro i F1 S d mf hlt ⟨x, ml, hx, rfl⟩ ⟨s, hs, rfl⟩ hS
    rw [List.length_map] at hlt
    repeat (with_reducible first | refine c_seq ?_ | refine on_n ?_ | refine c_skip ?_ | refine c_block ?_ | refine on_r ?_ | refine c_ret ?_ | refine c_exit ?_ | refine on_e ?_ | refine ob_e ?_ | refine ob_n ?_ | refine ob_r ?_ | refine ob_x rfl ?_)
    refine c_ops ?_
    first | refine r_op (o_load hS rfl rfl rfl rfl (s_no ?_)) | refine r_op (o_load hS rfl rfl (by assumption) rfl (s_no ?_)) | refine r_op (o_loadR rfl rfl rfl (s_no ?_)) | refine r_op (o_loadR rfl (by assumption) rfl (s_no ?_))
    try dsimp only [putF, rd, Frame.get]
    refine r_op (o_mov (s_no ?_))
    try dsimp only [putF, rd, Frame.get]
    refine r_op (o_bsliceR rfl (s_no ?_))
    try dsimp only [putF, rd, Frame.get, setCells, over]
    try dsimp only [putF, rd, Frame.get, setCells, over] at hS
    refine r_op ?_
    refine o_appendW hS rfl hx rfl rfl (by omega) fun x' ml' S hx' hS => ?_
    refine s_no ?_
    try dsimp only [putF, rd, Frame.get]
    refine r_op ?_
    refine o_store hS rfl rfl hx'.cl rfl (by simp) fun S hS => ?_; (try dsimp only [putF, rd, Frame.get, setCells, over] at hS)
    refine s_no ?_
    try dsimp only [putF, rd, Frame.get]
    refine r_nil (c_keep ?_)
    try dsimp only [List.map]
    try dsimp only [putF, rd, Frame.get]
    repeat (with_reducible first | refine c_seq ?_ | refine on_n ?_ | refine c_skip ?_ | refine c_block ?_ | refine on_r ?_ | refine c_ret ?_ | refine c_exit ?_ | refine on_e ?_ | refine ob_e ?_ | refine ob_n ?_ | refine ob_r ?_ | refine ob_x rfl ?_)
    refine ⟨rfl, _, ⟨x', ml', ?_, rfl⟩, hS⟩
    rw [List.take_add_one, hs]
    unfold ints64
    rw [List.map_append]
    exact hx'
  · rintro d X S ⟨x, ml, hx, rfl⟩ hS
    rw [List.length_map, List.take_of_length_le (Nat.le_refl _)] at hx
    repeat (with_reducible first | refine c_seq ?_ | refine on_n ?_ | refine c_skip ?_ | refine c_block ?_ | refine on_r ?_ | refine c_ret ?_ | refine c_exit ?_ | refine on_e ?_ | refine ob_e ?_ | refine ob_n ?_ | refine ob_r ?_ | refine ob_x rfl ?_)
    refine c_ops ?_
    first | refine r_op (o_load hS rfl rfl rfl rfl (s_no ?_)) | refine r_op (o_load hS rfl rfl (by assumption) rfl (s_no ?_)) | refine r_op (o_loadR rfl rfl rfl (s_no ?_)) | refine r_op (o_loadR rfl (by assumption) rfl (s_no ?_))
    try dsimp only [putF, rd, Frame.get]
    refine r_op (o_mov (s_no ?_))
    try dsimp only [putF, rd, Frame.get]
    refine r_nil (c_keep ?_)
    try dsimp only [List.map]
    try dsimp only [putF, rd, Frame.get]
    repeat (with_reducible first | refine c_seq ?_ | refine on_n ?_ | refine c_skip ?_ | refine c_block ?_ | refine on_r ?_ | refine c_ret ?_ | refine c_exit ?_ | refine on_e ?_ | refine ob_e ?_ | refine ob_n ?_ | refine ob_r ?_ | refine ob_x rfl ?_)
    try dsimp only
    unfold slices_AppendSeq___int_int__r
    refine w_tmp (w_nil ?_)
    try dsimp only [retV, Frame.get]
    exact ⟨_, ⟨ml, pt l2 (.row v2 0 [x]) + X, hx, rfl⟩, hS.eq (by ac_rfl)⟩

theorem Collect_walk {g : FuncId} {cap : List AVal} {L : List Int} {It : HM} (hgc : callable Try.prog g = true) (hseq : HSeq Try.prog g cap (L.map intA) It) (hL : L.length ≤ 1000000) :
    HC Try.prog f_slices_Collect_int_ [.fn (.func g) [] cap] It fun r m' => ∃ ml X, SlW 1 r (ints64 L) L.length ml ∧ m' = ml + X := by
  intro S mf hS
  have hA := AppendSeq_walk hgc hseq hL
  refine slices_Collect_int__ok.out rfl ?_ (by simp [slices_Collect_int__fi])
  unfold vcFun slices_Collect_int__fi
  dsimp only
  unfold slices_Collect_int__c
  dsimp only [argF]
  repeat (with_reducible first | refine c_seq ?_ | refine on_n ?_ | refine c_skip ?_ | refine c_block ?_ | refine on_r ?_ | refine c_ret ?_ | refine c_exit ?_ | refine on_e ?_ | refine ob_e ?_ | refine ob_n ?_ | refine ob_r ?_ | refine ob_x rfl ?_)
  refine c_ops ?_
  refine r_op (o_mov (s_no ?_))
  try dsimp only [putF, rd, Frame.get]
  refine r_nil (c_keep ?_)
  try dsimp only [List.map]
  try dsimp only [putF, rd, Frame.get]
  repeat (with_reducible first | refine c_seq ?_ | refine on_n ?_ | refine c_skip ?_ | refine c_block ?_ | refine on_r ?_ | refine c_ret ?_ | refine c_exit ?_ | refine on_e ?_ | refine ob_e ?_ | refine ob_n ?_ | refine ob_r ?_ | refine ob_x rfl ?_)
  refine c_ops ?_
  refine r_op (o_mov (s_no ?_))
  try dsimp only [putF, rd, Frame.get]
  refine r_op (o_call ?_)
  dsimp only [List.map, putF, rd, Frame.get]
  refine HC.use hA hS ?_; rintro r m' S ⟨ml, X, hx, rfl⟩ hS
  refine s_no ?_
  try dsimp only [putF, rd, Frame.get]
  refine r_op (o_mov (s_no ?_))
  try dsimp only [putF, rd, Frame.get]
  refine r_nil (c_keep ?_)
  try dsimp only [List.map]
  try dsimp only [putF, rd, Frame.get]
  repeat (with_reducible first | refine c_seq ?_ | refine on_n ?_ | refine c_skip ?_ | refine c_block ?_ | refine on_r ?_ | refine c_ret ?_ | refine c_exit ?_ | refine on_e ?_ | refine ob_e ?_ | refine ob_n ?_ | refine ob_r ?_ | refine ob_x rfl ?_)
  try dsimp only
  unfold slices_Collect_int__r
  refine w_tmp (w_nil ?_)
  try dsimp only [retV, Frame.get]
  exact ⟨_, ⟨ml, X, hx, rfl⟩, hS⟩

theorem Sorted_walk {g : FuncId} {cap : List AVal} {L : List Int} {It : HM} (hgc : callable Try.prog g = true) (hseq : HSeq Try.prog g cap (L.map intA) It) (hL : L.length ≤ 1000000) :
    HC Try.prog f_slices_Sorted_int_ [.fn (.func g) [] cap] It fun r m' => ∃ ml X, SlW 1 r (ints64 (sortL L)) L.length ml ∧ m' = ml + X := by
  intro S mf hS
  have hA := Collect_walk hgc hseq hL
  refine slices_Sorted_int__ok.out rfl ?_ (by simp [slices_Sorted_int__fi])
  unfold vcFun slices_Sorted_int__fi
  dsimp only
  unfold slices_Sorted_int__c
  dsimp only [argF]
  repeat (with_reducible first | refine c_seq ?_ | refine on_n ?_ | refine c_skip ?_ | refine c_block ?_ | refine on_r ?_ | refine c_ret ?_ | refine c_exit ?_ | refine on_e ?_ | refine ob_e ?_ | refine ob_n ?_ | refine ob_r ?_ | refine ob_x rfl ?_)
  refine c_ops ?_
  refine r_op (o_mov (s_no ?_))
  try dsimp only [putF, rd, Frame.get]
  refine r_nil (c_keep ?_)
  try dsimp only [List.map]
  try dsimp only [putF, rd, Frame.get]
  repeat (with_reducible first | refine c_seq ?_ | refine on_n ?_ | refine c_skip ?_ | refine c_block ?_ | refine on_r ?_ | refine c_ret ?_ | refine c_exit ?_ | refine on_e ?_ | refine ob_e ?_ | refine ob_n ?_ | refine ob_r ?_ | refine ob_x rfl ?_)
  refine c_ops ?_
  refine r_op (o_mov (s_no ?_))
  try dsimp only [putF, rd, Frame.get]
  refine r_op (o_call ?_)
  dsimp only [List.map, putF, rd, Frame.get]
  refine HC.use hA hS ?_; rintro x m' S ⟨ml, X, hx, rfl⟩ hS
  refine s_no ?_
  try dsimp only [putF, rd, Frame.get]
  refine r_op (o_mov (s_no ?_))
  try dsimp only [putF, rd, Frame.get]
  refine r_nil (c_keep ?_)
  try dsimp only [List.map]
  try dsimp only [putF, rd, Frame.get]
  repeat (with_reducible first | refine c_seq ?_ | refine on_n ?_ | refine c_skip ?_ | refine c_block ?_ | refine on_r ?_ | refine c_ret ?_ | refine c_exit ?_ | refine on_e ?_ | refine ob_e ?_ | refine ob_n ?_ | refine ob_r ?_ | refine ob_x rfl ?_)
  have hB := Sort_hc hx (by omega)
  refine c_ops ?_
  refine r_op (o_mov (s_no ?_))
  try dsimp only [putF, rd, Frame.get]
  refine r_op (o_call ?_)
  dsimp only [List.map, putF, rd, Frame.get]
  refine HC.use (a := ml) hB hS ?_; rintro r m' S ⟨rfl, hx'⟩ hS
  refine s_no ?_
  try dsimp only [putF, rd, Frame.get]
  refine r_nil (c_keep ?_)
  try dsimp only [List.map]
  try dsimp only [putF, rd, Frame.get]
  repeat (with_reducible first | refine c_seq ?_ | refine on_n ?_ | refine c_skip ?_ | refine c_block ?_ | refine on_r ?_ | refine c_ret ?_ | refine c_exit ?_ | refine on_e ?_ | refine ob_e ?_ | refine ob_n ?_ | refine ob_r ?_ | refine ob_x rfl ?_)
  refine c_ops ?_
  refine r_op (o_mov (s_no ?_))
  try dsimp only [putF, rd, Frame.get]
  refine r_op (o_mov (s_no ?_))
  try dsimp only [putF, rd, Frame.get]
  refine r_nil (c_keep ?_)
  try dsimp only [List.map]
  try dsimp only [putF, rd, Frame.get]
  repeat (with_reducible first | refine c_seq ?_ | refine on_n ?_ | refine c_skip ?_ | refine c_block ?_ | refine on_r ?_ | refine c_ret ?_ | refine c_exit ?_ | refine on_e ?_ | refine ob_e ?_ | refine ob_n ?_ | refine ob_r ?_ | refine ob_x rfl ?_)
  try dsimp only
  unfold slices_Sorted_int__r
  refine w_tmp (w_nil ?_)
  try dsimp only [retV, Frame.get]
  exact ⟨_, ⟨m', X, hx', rfl⟩, hS⟩

theorem Search_walk (n : Nat) (hn : n ≤ 1000000) (g : FuncId) (cap : List AVal) (A : HM) (dec : Nat → Bool) (hd : ∀ i j, i ≤ j → j < n → dec i = true → dec j = true)
    (hg : ∀ i, i < n → HC Try.prog g (.int .i64 (i : Int) :: cap) A fun r m' => r = .bool (dec i) ∧ ∃ X, m' = A + X) :
    HC Try.prog f_sort_Search [.int .i64 (n : Int), .fn (.func g) [] cap] A fun r m' => ∃ (k : Nat) (X : HM), r = .int .i64 (k : Int) ∧ k ≤ n ∧ (∀ i, i < k → dec i = false) ∧ (k < n → dec k = true) ∧ m' = A + X := by
  intro S mf hS
  refine sort_Search_ok.out rfl ?_ (by simp [sort_Search_fi])
  unfold vcFun sort_Search_fi
  dsimp only
  unfold sort_Search_c
  dsimp only [argF]
  repeat (with_reducible first | refine c_seq ?_ | refine on_n ?_ | refine c_skip ?_ | refine c_block ?_ | refine on_r ?_ | refine c_ret ?_ | refine c_exit ?_ | refine on_e ?_ | refine ob_e ?_ | refine ob_n ?_ | refine ob_r ?_ | refine ob_x rfl ?_)
  refine c_ops ?_
  refine r_op (o_mov (s_no ?_))
  try dsimp only [putF, rd, Frame.get]
  refine r_nil (c_keep ?_)
  try dsimp only [List.map]
  try dsimp only [putF, rd, Frame.get]
  repeat (with_reducible first | refine c_seq ?_ | refine on_n ?_ | refine c_skip ?_ | refine c_block ?_ | refine on_r ?_ | refine c_ret ?_ | refine c_exit ?_ | refine on_e ?_ | refine ob_e ?_ | refine ob_n ?_ | refine ob_r ?_ | refine ob_x rfl ?_)
  refine c_ops ?_
  refine r_op (o_mov (s_no ?_))
  try dsimp only [putF, rd, Frame.get]
  refine r_op (o_mov (s_no ?_))
  try dsimp only [putF, rd, Frame.get]
  refine r_op (o_mov (s_no ?_))
  try dsimp only [putF, rd, Frame.get]
  refine r_nil (c_keep ?_)
  try dsimp only [List.map]
  try dsimp only [putF, rd, Frame.get]
  repeat (with_reducible first | refine c_seq ?_ | refine on_n ?_ | refine c_skip ?_ | refine c_block ?_ | refine on_r ?_ | refine c_ret ?_ | refine c_exit ?_ | refine on_e ?_ | refine ob_e ?_ | refine ob_n ?_ | refine ob_r ?_ | refine ob_x rfl ?_)
  refine c_loop (fun k xs S => ∃ (i j : Nat) (X : HM), xs = [.int .i64 (i : Int), .int .i64 (j : Int)] ∧ i ≤ j ∧ j ≤ n ∧ k = j - i ∧ (∀ x, x < i → dec x = false) ∧ (j < n → dec j = true) ∧ Has S (A + (X + mf))) n ⟨0, n, HM.nil, rfl, Nat.zero_le _, Nat.le_refl _, rfl, fun x h => absurd h (Nat.not_lt_zero _), fun h => absurd h (Nat.lt_irrefl _), hS.eq (by rw [HM.nil_add])⟩ ?_
  clear hS
  rintro k xs S hl' ⟨i, j, X, rfl, hij, hj, rfl, h1, h2, hS⟩
  dsimp only [zipF, List.map, Frame.get]
  repeat (with_reducible first | refine c_seq ?_ | refine on_n ?_ | refine c_skip ?_ | refine c_block ?_ | refine on_r ?_ | refine c_ret ?_ | refine c_exit ?_ | refine on_e ?_ | refine ob_e ?_ | refine ob_n ?_ | refine ob_r ?_ | refine ob_x rfl ?_)
  refine c_ops ?_
  refine r_op (o_mov (s_no ?_))
  try dsimp only [putF, rd, Frame.get]
  refine r_op (o_mov (s_no ?_))
  try dsimp only [putF, rd, Frame.get]
  refine r_op (o_bin rfl (by first | trivial | (unfold inI64; omega)) (s_no ?_))
  try dsimp only [putF, rd, Frame.get]
  refine r_nil (c_keep ?_)
  try dsimp only [List.map]
  try dsimp only [putF, rd, Frame.get]
  repeat (with_reducible first | refine c_seq ?_ | refine on_n ?_ | refine c_skip ?_ | refine c_block ?_ | refine on_r ?_ | refine c_ret ?_ | refine c_exit ?_ | refine on_e ?_ | refine ob_e ?_ | refine ob_n ?_ | refine ob_r ?_ | refine ob_x rfl ?_)
  refine c_dec rfl (fun hlt => ?_) (fun hlt => ?_)
  rotate_left
  · obtain rfl : i = j := by omega
    repeat (with_reducible first | refine c_seq ?_ | refine on_n ?_ | refine c_skip ?_ | refine c_block ?_ | refine on_r ?_ | refine c_ret ?_ | refine c_exit ?_ | refine on_e ?_ | refine ob_e ?_ | refine ob_n ?_ | refine ob_r ?_ | refine ob_x rfl ?_)
    refine c_ops ?_
    refine r_op (o_mov (s_no ?_))
    try dsimp only [putF, rd, Frame.get]
    refine r_op (o_mov (s_no ?_))
    try dsimp only [putF, rd, Frame.get]
    refine r_nil (c_keep ?_)
    try dsimp only [List.map]
    try dsimp only [putF, rd, Frame.get]
    repeat (with_reducible first | refine c_seq ?_ | refine on_n ?_ | refine c_skip ?_ | refine c_block ?_ | refine on_r ?_ | refine c_ret ?_ | refine c_exit ?_ | refine on_e ?_ | refine ob_e ?_ | refine ob_n ?_ | refine ob_r ?_ | refine ob_x rfl ?_)
    try dsimp only
    unfold sort_Search_r
    refine w_tmp (w_nil ?_)
    try dsimp only [retV, Frame.get]
    exact ⟨_, ⟨i, X, rfl, hj, h1, h2, rfl⟩, hS.eq (by ac_rfl)⟩
  obtain ⟨h, hh⟩ : ∃ h : Nat, h = (i + j) / 2 := ⟨_, rfl⟩
  have hm : i ≤ h ∧ h < j := by omega
  have he : ((i : Int) + (j : Int)) / 2 = (h : Int) := by omega
  clear hh
  repeat (with_reducible first | refine c_seq ?_ | refine on_n ?_ | refine c_skip ?_ | refine c_block ?_ | refine on_r ?_ | refine c_ret ?_ | refine c_exit ?_ | refine on_e ?_ | refine ob_e ?_ | refine ob_n ?_ | refine ob_r ?_ | refine ob_x rfl ?_)
  refine c_ops ?_
  refine r_op (o_mov (s_no ?_))
  try dsimp only [putF, rd, Frame.get]
  refine r_op (o_mov (s_no ?_))
  try dsimp only [putF, rd, Frame.get]
  refine r_op (o_bin rfl (by first | trivial | (unfold inI64; omega)) (s_no ?_))
  try dsimp only [putF, rd, Frame.get]
  refine r_op (o_conv rfl (by first | trivial | (simp only [wMkF, inI64]; omega)) (s_no ?_))
  try dsimp only [putF, rd, Frame.get]
  refine r_op ?_
  refine o_shr rfl rfl (by decide) ?_; rw [half_u64 (by omega) (by omega), he]
  refine s_no ?_
  try dsimp only [putF, rd, Frame.get]
  refine r_op (o_conv rfl (by first | trivial | (simp only [wMkF, inI64]; omega)) (s_no ?_))
  try dsimp only [putF, rd, Frame.get]
  refine r_op (o_mov (s_no ?_))
  try dsimp only [putF, rd, Frame.get]
  refine r_nil (c_keep ?_)
  try dsimp only [List.map]
  try dsimp only [putF, rd, Frame.get]
  repeat (with_reducible first | refine c_seq ?_ | refine on_n ?_ | refine c_skip ?_ | refine c_block ?_ | refine on_r ?_ | refine c_ret ?_ | refine c_exit ?_ | refine on_e ?_ | refine ob_e ?_ | refine ob_n ?_ | refine ob_r ?_ | refine ob_x rfl ?_)
  refine c_ops ?_
  refine r_op (o_mov (s_no ?_))
  try dsimp only [putF, rd, Frame.get]
  refine r_op (o_mov (s_no ?_))
  try dsimp only [putF, rd, Frame.get]
  refine r_op ?_
  refine (o_callv rfl ?_); dsimp only [List.map, putF, rd, Frame.get]; refine HC.use (hg h (by omega)) hS ?_; rintro r m' S ⟨rfl, X', rfl⟩ hS
  refine s_no ?_
  try dsimp only [putF, rd, Frame.get]
  refine r_op (o_not rfl (s_no ?_))
  try dsimp only [putF, rd, Frame.get]
  refine r_nil (c_keep ?_)
  try dsimp only [List.map]
  try dsimp only [putF, rd, Frame.get]
  repeat (with_reducible first | refine c_seq ?_ | refine on_n ?_ | refine c_skip ?_ | refine c_block ?_ | refine on_r ?_ | refine c_ret ?_ | refine c_exit ?_ | refine on_e ?_ | refine ob_e ?_ | refine ob_n ?_ | refine ob_r ?_ | refine ob_x rfl ?_)
  cases hdh : dec h with
  | false =>
    refine c_bool (c := !false) rfl (fun _ => ?_) (fun h => by cases h)
    repeat (with_reducible first | refine c_seq ?_ | refine on_n ?_ | refine c_skip ?_ | refine c_block ?_ | refine on_r ?_ | refine c_ret ?_ | refine c_exit ?_ | refine on_e ?_ | refine ob_e ?_ | refine ob_n ?_ | refine ob_r ?_ | refine ob_x rfl ?_)
    refine c_ops ?_
    refine r_op (o_mov (s_no ?_))
    try dsimp only [putF, rd, Frame.get]
    refine r_op (o_bin rfl (by first | trivial | (unfold inI64; omega)) (s_no ?_))
    try dsimp only [putF, rd, Frame.get]
    refine r_op (o_mov (s_no ?_))
    try dsimp only [putF, rd, Frame.get]
    refine r_nil (c_keep ?_)
    try dsimp only [List.map]
    try dsimp only [putF, rd, Frame.get]
    repeat (with_reducible first | refine c_seq ?_ | refine on_n ?_ | refine c_skip ?_ | refine c_block ?_ | refine on_r ?_ | refine c_ret ?_ | refine c_exit ?_ | refine on_e ?_ | refine ob_e ?_ | refine ob_n ?_ | refine ob_r ?_ | refine ob_x rfl ?_)
    exact ⟨j - (h + 1), by omega, h + 1, j, X' + X, rfl, by omega, hj, rfl, fun x hx => (by
      cases hdx : dec x with
      | false => rfl
      | true => have := hd x h (by omega) (by omega) hdx; rw [hdh] at this; cases this), h2, hS.eq (by ac_rfl)⟩
  | true =>
    refine c_bool (c := !true) rfl (fun h => by cases h) (fun _ => ?_)
    repeat (with_reducible first | refine c_seq ?_ | refine on_n ?_ | refine c_skip ?_ | refine c_block ?_ | refine on_r ?_ | refine c_ret ?_ | refine c_exit ?_ | refine on_e ?_ | refine ob_e ?_ | refine ob_n ?_ | refine ob_r ?_ | refine ob_x rfl ?_)
    refine c_ops ?_
    refine r_op (o_mov (s_no ?_))
    try dsimp only [putF, rd, Frame.get]
    refine r_op (o_mov (s_no ?_))
    try dsimp only [putF, rd, Frame.get]
    refine r_nil (c_keep ?_)
    try dsimp only [List.map]
    try dsimp only [putF, rd, Frame.get]
    repeat (with_reducible first | refine c_seq ?_ | refine on_n ?_ | refine c_skip ?_ | refine c_block ?_ | refine on_r ?_ | refine c_ret ?_ | refine c_exit ?_ | refine on_e ?_ | refine ob_e ?_ | refine ob_n ?_ | refine ob_r ?_ | refine ob_x rfl ?_)
    exact ⟨h - i, by omega, i, h, X' + X, rfl, by omega, by omega, rfl, h1, fun _ => hdh, hS.eq (by ac_rfl)⟩
def hasP (a b : Bytes) : Bool := if b.length ≤ a.length then decide (a.take b.length = b) else false
theorem hasP_iff (a b : Bytes) : hasP a b = true ↔ b <+: a := by
  unfold hasP
  rw [List.prefix_iff_eq_take]
  split
  · rw [decide_eq_true_eq, eq_comm]
  · rename_i h
    refine ⟨(fun q => by cases q), fun q => ?_⟩
    have := congrArg List.length q
    rw [List.length_take] at this; omega

theorem hasp_rc (a b : Bytes) : RC Try.prog f_internal_stringslite_HasPrefix [.str a, .str b] (.bool (hasP a b)) := by
  refine RC.val ?_
  intro S mf hS
  refine internal_stringslite_HasPrefix_ok.out rfl ?_ (by simp [internal_stringslite_HasPrefix_fi])
  unfold vcFun internal_stringslite_HasPrefix_fi
  dsimp only
  unfold internal_stringslite_HasPrefix_c
  dsimp only [argF]
  repeat (with_reducible first | refine c_seq ?_ | refine on_n ?_ | refine c_skip ?_ | refine c_block ?_ | refine on_r ?_ | refine c_ret ?_ | refine c_exit ?_ | refine on_e ?_ | refine ob_e ?_ | refine ob_n ?_ | refine ob_r ?_ | refine ob_x rfl ?_)
  refine c_ops ?_
  refine r_op (o_mov (s_no ?_))
  try dsimp only [putF, rd, Frame.get]
  refine r_nil (c_keep ?_)
  try dsimp only [List.map]
  try dsimp only [putF, rd, Frame.get]
  repeat (with_reducible first | refine c_seq ?_ | refine on_n ?_ | refine c_skip ?_ | refine c_block ?_ | refine on_r ?_ | refine c_ret ?_ | refine c_exit ?_ | refine on_e ?_ | refine ob_e ?_ | refine ob_n ?_ | refine ob_r ?_ | refine ob_x rfl ?_)
  unfold hasP
  by_cases h : b.length ≤ a.length
  · rw [if_pos h]
    refine c_ops ?_
    refine r_op (o_mov (s_no ?_))
    try dsimp only [putF, rd, Frame.get]
    refine r_op (o_len rfl (s_no ?_))
    try dsimp only [putF, rd, Frame.get]
    refine r_op (o_mov (s_no ?_))
    try dsimp only [putF, rd, Frame.get]
    refine r_op (o_len rfl (s_no ?_))
    try dsimp only [putF, rd, Frame.get]
    refine r_op (o_bin rfl (by first | trivial | (unfold inI64; omega)) (s_no ?_))
    try dsimp only [putF, rd, Frame.get]
    refine r_op ?_
    refine o_mov (s_dec (fun hg => ?_) (fun hg => by exfalso; omega))
    try dsimp only [putF, rd, Frame.get]
    first | ((with_reducible refine r_st ?_ ?_); (· rfl)) | ((with_reducible refine r_sf ?_ ?_); (· rfl)) | ((with_reducible refine r_su (xs := []) ?_ ?_); (· rfl)) | refine r_tt rfl (o_mov (s_no ?_))
    try dsimp only [putF, rd, Frame.get]
    first | ((with_reducible refine r_st ?_ ?_); (· rfl)) | ((with_reducible refine r_sf ?_ ?_); (· rfl)) | ((with_reducible refine r_su (xs := []) ?_ ?_); (· rfl)) | refine r_tt rfl (o_mov (s_no ?_))
    try dsimp only [putF, rd, Frame.get]
    first | ((with_reducible refine r_st ?_ ?_); (· rfl)) | ((with_reducible refine r_sf ?_ ?_); (· rfl)) | ((with_reducible refine r_su (xs := []) ?_ ?_); (· rfl)) | refine r_tt rfl (o_len rfl (s_no ?_))
    try dsimp only [putF, rd, Frame.get]
    first | refine r_tt rfl (o_sliceS rfl ⟨_, rfl⟩ rfl (by omega) (by omega) (s_no ?_))
    try dsimp only [putF, rd, Frame.get]
    try simp only [Nat.zero_mul, Nat.mul_zero, Nat.mul_one, Nat.add_zero, Nat.zero_add, Nat.sub_zero, Nat.reduceAdd, Nat.reduceMul]
    first | ((with_reducible refine r_st ?_ ?_); (· rfl)) | ((with_reducible refine r_sf ?_ ?_); (· rfl)) | ((with_reducible refine r_su (xs := []) ?_ ?_); (· rfl)) | refine r_tt rfl (o_mov (s_no ?_))
    try dsimp only [putF, rd, Frame.get]
    first | ((with_reducible refine r_st ?_ ?_); (· rfl)) | ((with_reducible refine r_sf ?_ ?_); (· rfl)) | ((with_reducible refine r_su (xs := []) ?_ ?_); (· rfl)) | refine r_tt rfl (o_bin rfl (by first | trivial | (unfold inI64; omega)) (s_no ?_))
    try dsimp only [putF, rd, Frame.get]
    first | refine r_op (o_pickT rfl (s_no ?_)) | refine r_op (o_pickF rfl (s_no ?_))
    try dsimp only [putF, rd, Frame.get]
    refine r_op (o_mov (s_no ?_))
    try dsimp only [putF, rd, Frame.get]
    refine r_nil (c_keep ?_)
    try dsimp only [List.map]
    try dsimp only [putF, rd, Frame.get]
    repeat (with_reducible first | refine c_seq ?_ | refine on_n ?_ | refine c_skip ?_ | refine c_block ?_ | refine on_r ?_ | refine c_ret ?_ | refine c_exit ?_ | refine on_e ?_ | refine ob_e ?_ | refine ob_n ?_ | refine ob_r ?_ | refine ob_x rfl ?_)
    try dsimp only
    unfold internal_stringslite_HasPrefix_r
    refine w_tmp (w_nil ?_)
    try dsimp only [retV, Frame.get]
    exact ⟨HM.nil, by rw [List.drop_zero], hS⟩
  · rw [if_neg h]
    refine c_ops ?_
    refine r_op (o_mov (s_no ?_))
    try dsimp only [putF, rd, Frame.get]
    refine r_op (o_len rfl (s_no ?_))
    try dsimp only [putF, rd, Frame.get]
    refine r_op (o_mov (s_no ?_))
    try dsimp only [putF, rd, Frame.get]
    refine r_op (o_len rfl (s_no ?_))
    try dsimp only [putF, rd, Frame.get]
    refine r_op (o_bin rfl (by first | trivial | (unfold inI64; omega)) (s_no ?_))
    try dsimp only [putF, rd, Frame.get]
    refine r_op ?_
    refine o_mov (s_dec (fun hg => by exfalso; omega) (fun hg => ?_))
    try dsimp only [putF, rd, Frame.get]
    first | ((with_reducible refine r_st ?_ ?_); (· rfl)) | ((with_reducible refine r_sf ?_ ?_); (· rfl)) | ((with_reducible refine r_su (xs := []) ?_ ?_); (· rfl)) | refine r_tt rfl (o_mov (s_no ?_))
    try dsimp only [putF, rd, Frame.get]
    first | ((with_reducible refine r_st ?_ ?_); (· rfl)) | ((with_reducible refine r_sf ?_ ?_); (· rfl)) | ((with_reducible refine r_su (xs := []) ?_ ?_); (· rfl)) | refine r_tt rfl (o_mov (s_no ?_))
    try dsimp only [putF, rd, Frame.get]
    first | ((with_reducible refine r_st ?_ ?_); (· rfl)) | ((with_reducible refine r_sf ?_ ?_); (· rfl)) | ((with_reducible refine r_su (xs := []) ?_ ?_); (· rfl)) | refine r_tt rfl (o_len rfl (s_no ?_))
    try dsimp only [putF, rd, Frame.get]
    first | ((with_reducible refine r_st ?_ ?_); (· rfl)) | ((with_reducible refine r_sf ?_ ?_); (· rfl)) | ((with_reducible refine r_su (xs := []) ?_ ?_); (· rfl))
    try dsimp only [putF, rd, Frame.get]
    first | ((with_reducible refine r_st ?_ ?_); (· rfl)) | ((with_reducible refine r_sf ?_ ?_); (· rfl)) | ((with_reducible refine r_su (xs := []) ?_ ?_); (· rfl)) | refine r_tt rfl (o_mov (s_no ?_))
    try dsimp only [putF, rd, Frame.get]
    first | ((with_reducible refine r_st ?_ ?_); (· rfl)) | ((with_reducible refine r_sf ?_ ?_); (· rfl)) | ((with_reducible refine r_su (xs := []) ?_ ?_); (· rfl)) | refine r_tt rfl (o_bin rfl (by first | trivial | (unfold inI64; omega)) (s_no ?_))
    try dsimp only [putF, rd, Frame.get]
    first | refine r_op (o_pickT rfl (s_no ?_)) | refine r_op (o_pickF rfl (s_no ?_))
    try dsimp only [putF, rd, Frame.get]
    refine r_op (o_mov (s_no ?_))
    try dsimp only [putF, rd, Frame.get]
    refine r_nil (c_keep ?_)
    try dsimp only [List.map]
    try dsimp only [putF, rd, Frame.get]
    repeat (with_reducible first | refine c_seq ?_ | refine on_n ?_ | refine c_skip ?_ | refine c_block ?_ | refine on_r ?_ | refine c_ret ?_ | refine c_exit ?_ | refine on_e ?_ | refine ob_e ?_ | refine ob_n ?_ | refine ob_r ?_ | refine ob_x rfl ?_)
    try dsimp only
    unfold internal_stringslite_HasPrefix_r
    refine w_tmp (w_nil ?_)
    try dsimp only [retV, Frame.get]
    exact ⟨HM.nil, rfl, hS⟩

theorem HasPrefix_rc (a b : Bytes) : RC Try.prog f_strings_HasPrefix [.str a, .str b] (.bool (hasP a b)) := by
  refine RC.val ?_
  intro S mf hS
  refine strings_HasPrefix_ok.out rfl ?_ (by simp [strings_HasPrefix_fi])
  unfold vcFun strings_HasPrefix_fi
  dsimp only
  unfold strings_HasPrefix_c
  dsimp only [argF]
  repeat (with_reducible first | refine c_seq ?_ | refine on_n ?_ | refine c_skip ?_ | refine c_block ?_ | refine on_r ?_ | refine c_ret ?_ | refine c_exit ?_ | refine on_e ?_ | refine ob_e ?_ | refine ob_n ?_ | refine ob_r ?_ | refine ob_x rfl ?_)
  refine c_ops ?_
  refine r_op (o_mov (s_no ?_))
  try dsimp only [putF, rd, Frame.get]
  refine r_nil (c_keep ?_)
  try dsimp only [List.map]
  try dsimp only [putF, rd, Frame.get]
  repeat (with_reducible first | refine c_seq ?_ | refine on_n ?_ | refine c_skip ?_ | refine c_block ?_ | refine on_r ?_ | refine c_ret ?_ | refine c_exit ?_ | refine on_e ?_ | refine ob_e ?_ | refine ob_n ?_ | refine ob_r ?_ | refine ob_x rfl ?_)
  refine c_ops ?_
  refine r_op (o_mov (s_no ?_))
  try dsimp only [putF, rd, Frame.get]
  refine r_op (o_mov (s_no ?_))
  try dsimp only [putF, rd, Frame.get]
  refine r_op (o_call ?_)
  dsimp only [List.map, putF, rd, Frame.get]
  refine (hasp_rc a b).use ?_
  refine s_no ?_
  try dsimp only [putF, rd, Frame.get]
  refine r_op (o_mov (s_no ?_))
  try dsimp only [putF, rd, Frame.get]
  refine r_nil (c_keep ?_)
  try dsimp only [List.map]
  try dsimp only [putF, rd, Frame.get]
  repeat (with_reducible first | refine c_seq ?_ | refine on_n ?_ | refine c_skip ?_ | refine c_block ?_ | refine on_r ?_ | refine c_ret ?_ | refine c_exit ?_ | refine on_e ?_ | refine ob_e ?_ | refine ob_n ?_ | refine ob_r ?_ | refine ob_x rfl ?_)
  try dsimp only
  unfold strings_HasPrefix_r
  refine w_tmp (w_nil ?_)
  try dsimp only [retV, Frame.get]
  exact ⟨HM.nil, rfl, hS⟩
abbrev FdM (l2 v2 l6 v6 l3 v3 : Nat) (s f : Bytes) (sa : List Int) : HM := pt l2 (.row v2 0 [.str s]) + (pt l6 (.row v6 0 [.ros sa.length (ints64 sa)]) + pt l3 (.row v3 0 [.str f]))

theorem fd_walk {l2 v2 l6 v6 l3 v3 : Nat} {s f : Bytes} {sa : List Int} (hs : s.length ≤ 1000000) (hin : ∀ i ∈ sa, inT s i) (k : Nat) (hk : k < sa.length) : HC Try.prog f_suffix_Find_1 [.int .i64 (k : Int), .ptr l2 v2 0, .ptr l6 v6 0, .ptr l3 v3 0] (FdM l2 v2 l6 v6 l3 v3 s f sa) fun r m' => r = .bool (!Op.bytesLess (suf s (gt sa (k : Int))) f) ∧ ∃ X, m' = FdM l2 v2 l6 v6 l3 v3 s f sa + X := by
  intro S mf hS
  have ht : takeN 1 ((ints64 sa).drop (k * 1)) = some [.int .i64 (gt sa (k : Int))] := by rw [Nat.mul_one]; exact ints_at hk
  have hi := hin _ (gt_mem (l := sa) (i := (k : Int)) (by omega) (by omega))
  unfold suf
  generalize gt sa (k : Int) = i at *
  have hi0 : 0 ≤ i := hi.1
  have hi1 : i < s.length := hi.2
  obtain ⟨j, rfl⟩ : ∃ j : Nat, i = (j : Int) := ⟨i.toNat, by omega⟩
  refine suffix_Find_1_ok.out rfl ?_ (by simp [suffix_Find_1_fi])
  unfold vcFun suffix_Find_1_fi
  dsimp only
  unfold suffix_Find_1_c
  dsimp only [argF]
  repeat (with_reducible first | refine c_seq ?_ | refine on_n ?_ | refine c_skip ?_ | refine c_block ?_ | refine on_r ?_ | refine c_ret ?_ | refine c_exit ?_ | refine on_e ?_ | refine ob_e ?_ | refine ob_n ?_ | refine ob_r ?_ | refine ob_x rfl ?_)
  refine c_ops ?_
  refine r_op (o_mov (s_no ?_))
  try dsimp only [putF, rd, Frame.get]
  refine r_nil (c_keep ?_)
  try dsimp only [List.map]
  try dsimp only [putF, rd, Frame.get]
  repeat (with_reducible first | refine c_seq ?_ | refine on_n ?_ | refine c_skip ?_ | refine c_block ?_ | refine on_r ?_ | refine c_ret ?_ | refine c_exit ?_ | refine on_e ?_ | refine ob_e ?_ | refine ob_n ?_ | refine ob_r ?_ | refine ob_x rfl ?_)
  refine c_opsD0 hS fun S hS => ?_
  refine d_zero ?_
  first | refine r_op (o_load hS rfl rfl rfl rfl (s_no ?_)) | refine r_op (o_load hS rfl rfl (by assumption) rfl (s_no ?_)) | refine r_op (o_loadR rfl rfl rfl (s_no ?_)) | refine r_op (o_loadR rfl (by assumption) rfl (s_no ?_))
  try dsimp only [putF, rd, Frame.get]
  first | refine r_op (o_load hS rfl rfl rfl rfl (s_no ?_)) | refine r_op (o_load hS rfl rfl (by assumption) rfl (s_no ?_)) | refine r_op (o_loadR rfl rfl rfl (s_no ?_)) | refine r_op (o_loadR rfl (by assumption) rfl (s_no ?_))
  try dsimp only [putF, rd, Frame.get]
  refine r_op (o_mov (s_no ?_))
  try dsimp only [putF, rd, Frame.get]
  first | refine r_op (o_iaddr hS rfl rfl rfl (by omega) (s_no ?_)) | refine r_op (o_iaddrR rfl rfl (by omega) (by assumption) (s_no ?_)) | refine r_op (o_iaddrA rfl rfl (by omega) (s_no ?_)) | refine r_op (o_iaddrAR rfl rfl (by omega) (s_no ?_))
  try dsimp only [putF, rd, Frame.get]
  try simp only [Nat.zero_mul, Nat.mul_zero, Nat.mul_one, Nat.add_zero, Nat.zero_add, Nat.sub_zero, Nat.reduceAdd, Nat.reduceMul]
  first | refine r_op (o_load hS rfl rfl rfl rfl (s_no ?_)) | refine r_op (o_load hS rfl rfl (by assumption) rfl (s_no ?_)) | refine r_op (o_loadR rfl rfl rfl (s_no ?_)) | refine r_op (o_loadR rfl (by assumption) rfl (s_no ?_))
  try dsimp only [putF, rd, Frame.get]
  first | refine r_op (o_sliceS rfl rfl ⟨_, rfl⟩ (by omega) (by omega) (s_no ?_))
  try dsimp only [putF, rd, Frame.get]
  try simp only [Nat.zero_mul, Nat.mul_zero, Nat.mul_one, Nat.add_zero, Nat.zero_add, Nat.sub_zero, Nat.reduceAdd, Nat.reduceMul]
  first | refine r_op (o_load hS rfl rfl rfl rfl (s_no ?_)) | refine r_op (o_load hS rfl rfl (by assumption) rfl (s_no ?_)) | refine r_op (o_loadR rfl rfl rfl (s_no ?_)) | refine r_op (o_loadR rfl (by assumption) rfl (s_no ?_))
  try dsimp only [putF, rd, Frame.get]
  refine r_op (o_bin rfl (by first | trivial | (unfold inI64; omega)) (s_no ?_))
  try dsimp only [putF, rd, Frame.get]
  refine r_op (o_mov (s_no ?_))
  try dsimp only [putF, rd, Frame.get]
  refine r_nil (c_keep ?_)
  try dsimp only [List.map]
  try dsimp only [putF, rd, Frame.get]
  repeat (with_reducible first | refine c_seq ?_ | refine on_n ?_ | refine c_skip ?_ | refine c_block ?_ | refine on_r ?_ | refine c_ret ?_ | refine c_exit ?_ | refine on_e ?_ | refine ob_e ?_ | refine ob_n ?_ | refine ob_r ?_ | refine ob_x rfl ?_)
  try dsimp only
  unfold suffix_Find_1_r
  refine w_tmp (w_nil ?_)
  try dsimp only [retV, Frame.get]
  refine ⟨_, ⟨?_, HM.nil, (HM.add_nil _).symm⟩, hS⟩
  rw [List.take_length, Int.toNat_natCast]
end Go.Proofs.Ytoiebdgnfjgcpaa.S
