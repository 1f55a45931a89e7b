/- The list of a table: walked. Conditions: none. -/
import Derived.Test.YtmpmlnjiolbplaaW2
set_option linter.unusedVariables false
set_option linter.unusedSimpArgs false
set_option maxRecDepth 100000
namespace Go.Proofs.Ytmpmlnjiolbplaa.W
open Go.Vc Go.Fu

theorem Clone_walk {x : AVal} {cells : List AVal} {n : Nat} {ml : HM} (hx : SlW 1 x cells n ml) (hn : n ≤ 1000000) : HC Try.prog f_slices_Clone___int_int_ [x] ml fun r m' => ∃ m2 X, SlW 1 r cells n m2 ∧ m' = ml + (m2 + X) := by
  intro S mf hS
  refine slices_Clone___int_int__ok.out rfl ?_ (by simp [slices_Clone___int_int__fi])
  unfold vcFun slices_Clone___int_int__fi
  dsimp only
  unfold slices_Clone___int_int__c
  dsimp only [argF]
  rcases hx with ⟨rfl, rfl, rfl, rfl⟩ | ⟨p, v, rfl, rfl, hl⟩
  · with_reducible (refine c_seq ?_)
    refine c_ops ?_
    refine r_op (o_mov (s_no ?_))
    dsimp only [putF, rd, Frame.get]
    refine r_nil (c_keep ?_)
    dsimp only [List.map]
    dsimp only [putF, rd, Frame.get]
    with_reducible (refine on_n ?_; refine c_seq ?_; refine c_seq ?_)
    refine c_ops ?_
    refine r_op (o_mov (s_no ?_))
    dsimp only [putF, rd, Frame.get]
    refine r_op (o_isnilN rfl (s_no ?_))
    dsimp only [putF, rd, Frame.get]
    refine r_nil (c_keep ?_)
    dsimp only [List.map]
    dsimp only [putF, rd, Frame.get]
    with_reducible (refine on_n ?_)
    refine c_bool (c := true) rfl (fun _ => ?_) (fun h => by cases h)
    with_reducible (refine c_seq ?_)
    refine c_ops ?_
    refine r_op (o_mov (s_no ?_))
    dsimp only [putF, rd, Frame.get]
    refine r_nil (c_keep ?_)
    dsimp only [List.map]
    dsimp only [putF, rd, Frame.get]
    with_reducible (refine on_n ?_; refine c_ret ?_; refine on_r ?_)
    try dsimp only
    unfold slices_Clone___int_int__r
    refine w_tmp (w_nil ?_)
    dsimp only [retV, Frame.get]
    exact ⟨_, ⟨HM.nil, HM.nil, SlW.nil, rfl⟩, hS.eq (by simp only [HM.nil_add])⟩
  · with_reducible (refine c_seq ?_)
    refine c_ops ?_
    refine r_op (o_mov (s_no ?_))
    dsimp only [putF, rd, Frame.get]
    refine r_nil (c_keep ?_)
    dsimp only [List.map]
    dsimp only [putF, rd, Frame.get]
    with_reducible (refine on_n ?_; refine c_seq ?_; refine c_seq ?_)
    refine c_ops ?_
    refine r_op (o_mov (s_no ?_))
    dsimp only [putF, rd, Frame.get]
    refine r_op (o_isnil rfl fun b hb => s_no ?_)
    dsimp only [putF, rd, Frame.get]
    refine r_nil (c_keep ?_)
    dsimp only [List.map]
    dsimp only [putF, rd, Frame.get]
    with_reducible (refine on_n ?_)
    refine c_bool (c := b != false) rfl (fun hb' => ?_) (fun hb' => ?_)
    · with_reducible (refine c_seq ?_)
      refine c_ops ?_
      refine r_op (o_mov (s_no ?_))
      dsimp only [putF, rd, Frame.get]
      refine r_nil (c_keep ?_)
      dsimp only [List.map]
      dsimp only [putF, rd, Frame.get]
      with_reducible (refine on_n ?_; refine c_ret ?_; refine on_r ?_)
      try dsimp only
      unfold slices_Clone___int_int__r
      refine w_tmp (w_nil ?_)
      dsimp only [retV, Frame.get]
      have h0 : n = 0 := hb (by simpa using hb')
      subst h0
      have hc : cells = [] := List.length_eq_zero_iff.1 (by omega)
      exact ⟨_, ⟨HM.nil, HM.nil, .inl ⟨rfl, rfl, hc, rfl⟩, rfl⟩, hS.eq (by rw [HM.nil_add, HM.add_nil])⟩
    · with_reducible (refine c_skip ?_; refine on_n ?_; refine c_seq ?_)
      refine c_ops ?_
      refine r_op (o_bsliceW hS rfl fun v5 l5 S hS => s_no ?_)
      dsimp only [putF, rd, Frame.get, setCells, over]
      refine r_op (o_mov (s_no ?_))
      dsimp only [putF, rd, Frame.get]
      refine r_op ?_
      refine o_appendX (n := 0) hS rfl (SrcOf.own (i := inferInstance) rfl (by omega)) rfl rfl (by omega) fun v7 S hS => ?_
      refine s_no ?_
      dsimp only [putF, rd, Frame.get]
      refine r_op (o_mov (s_no ?_))
      dsimp only [putF, rd, Frame.get]
      refine r_nil (c_keep ?_)
      dsimp only [List.map]
      dsimp only [putF, rd, Frame.get]
      with_reducible (refine on_n ?_; refine c_ret ?_)
      try dsimp only
      unfold slices_Clone___int_int__r
      refine w_tmp (w_nil ?_)
      dsimp only [retV, Frame.get]
      have e : subL cells 0 (n * 1) = cells := by unfold subL; rw [List.drop_zero, List.take_of_length_le (by omega)]
      rw [List.nil_append, e] at hS
      exact ⟨_, ⟨pt l5 (.row v7 1 cells), HM.nil, .inr ⟨l5, v7, by rw [Nat.zero_add], rfl, hl⟩, rfl⟩, hS.eq (by rw [HM.add_nil]; ac_rfl)⟩
/-- Words and where they are, in rows of their own. -/
abbrev WE := List UInt8 × List Int × Nat × Nat
def wCs (d : WE) : List AVal := [.str d.1, .sl d.2.2.1 d.2.2.2 0 d.2.1.length]
def wCells (D : List WE) : List AVal := D.flatMap wCs
def wMem : List WE → HM
  | [] => HM.nil
  | d :: D => pt d.2.2.1 (.row d.2.2.2 1 (d.2.1.map (.int .i64))) + wMem D
def wTab (D : List WE) : WTab := D.map fun d => (d.1, d.2.1)
theorem wMem_append (D D' : List WE) : wMem (D ++ D') = wMem D + wMem D' := by
  induction D with
  | nil => simp only [List.nil_append, wMem]; rw [HM.nil_add]
  | cons d D ih => simp only [List.cons_append, wMem, ih]; ac_rfl
theorem wCells_len (D : List WE) : (wCells D).length = D.length * 2 := by
  induction D with
  | nil => rfl
  | cons d D ih => unfold wCells at *; rw [List.flatMap_cons, List.length_append, ih]; simp [wCs]; omega
theorem wCells_append (D D' : List WE) : wCells (D ++ D') = wCells D ++ wCells D' := List.flatMap_append ..
theorem Tab.at_ {T : WTab} {es : List (AVal × AVal)} {m : HM} (h : Tab T es m) (hn : (T.map (·.1)).Nodup) {w : List UInt8} (hw : w ∈ T.map (·.1)) : ∃ j p v R, keyAt (.str w) es = some (j, .sl p v 0 (tabGet T w).length) ∧ m = pt p (.row v 1 ((tabGet T w).map (.int .i64))) + R := by
  induction h with
  | nil => cases hw
  | @cons u a T es m p v h ih =>
    simp only [List.map_cons, List.nodup_cons] at hn
    by_cases e : u = w
    · subst e
      exact ⟨0, p, v, m, by simp [keyAt, keySame, tabGet], by simp [tabGet]⟩
    · have k1 : keySame (.str w) (.str u) = false := by simp only [keySame, beq_eq_false_iff_ne]; exact fun q => e q.symm
      have k2 : tabGet ((u, a) :: T) w = tabGet T w := by simp only [tabGet]; rw [if_neg e]
      obtain ⟨j, p', v', R, g1, g2⟩ := ih hn.2 (by rcases List.mem_cons.1 hw with h | h; exact absurd h.symm e; exact h)
      refine ⟨j + 1, p', v', pt p (.row v 1 (a.map (.int .i64))) + R, ?_, ?_⟩
      · unfold keyAt; rw [k1, k2, g1]
      · rw [k2, g2]; ac_rfl
theorem Tab.strs {T : WTab} {es : List (AVal × AVal)} {m : HM} (h : Tab T es m) : keysOf es = (T.map (·.1)).map strA := by
  induction h with
  | nil => rfl
  | cons p v h ih => unfold keysOf at *; rw [List.map_cons, ih]; rfl
theorem strA_inj : ∀ {L M : List (List UInt8)}, L.map strA = M.map strA → L = M := fun {L M} h => by
  have := congrArg (List.map fun a : List AVal => match a with | [.str s] => s | _ => []) h
  simpa [List.map_map, strA, Function.comp_def] using this
theorem strA_perm {L M : List (List UInt8)} (h : (L.map strA).Perm (M.map strA)) : L.Perm M := by
  have := h.map fun a : List AVal => match a with | [.str s] => s | _ => []
  simpa [List.map_map, strA, Function.comp_def] using this

theorem List_walk {T : WTab} {es : List (AVal × AVal)} {m : HM} (ht : Tab T es m) (hn : (T.map (·.1)).Nodup) (hl : T.length ≤ 1000000) (hl2 : ∀ x ∈ T, x.2.length ≤ 1000000) (hpos : ∀ x ∈ T, x.2 ≠ []) {lm vm : Nat} :
    HC Try.prog f__words_Table__List [.map lm vm] (pt lm (.mapo vm es) + m) fun r m' => ∃ p v D X, r = .sl p v 0 D.length ∧ wTab D = WL T ∧ m' = (pt lm (.mapo vm es) + m) + (pt p (.row v 2 (wCells D)) + (wMem D + X)) := by
  intro S mf hS
  have hk := ht.keys
  have hks := ht.strs
  refine _words_Table__List_ok.out rfl ?_ (by simp [_words_Table__List_fi])
  unfold vcFun _words_Table__List_fi
  dsimp only
  unfold _words_Table__List_c
  dsimp only [argF]
  with_reducible (refine c_seq ?_)
  refine c_ops ?_
  refine r_op (o_mov (s_no ?_))
  dsimp only [putF, rd, Frame.get]
  refine r_nil (c_keep ?_)
  dsimp only [List.map]
  dsimp only [putF, rd, Frame.get]
  with_reducible (refine on_n ?_; refine c_seq ?_)
  refine c_ops ?_
  refine r_op (o_newnil hS fun v3 l3 S hS => s_no ?_)
  dsimp only [putF, rd, Frame.get]
  refine r_nil (c_keep ?_)
  dsimp only [List.map]
  dsimp only [putF, rd, Frame.get]
  with_reducible (refine on_n ?_; refine c_seq ?_; refine c_seq ?_)
  have hX : ∀ xs : List (List AVal), xs.Perm (keysOf es) → ∃ L : List (List UInt8), xs = L.map strA ∧ L.length ≤ 1000000 := fun xs hx => by
    rw [hks] at hx
    have e : ∀ x ∈ xs, x = strA (match x with | [.str s] => s | _ => []) := fun x hx' => by
      obtain ⟨s, _, rfl⟩ := List.mem_map.1 (hx.mem_iff.1 hx'); rfl
    refine ⟨xs.map fun x => (match x with | [.str s] => s | _ => []), ?_, ?_⟩
    · rw [List.map_map]
      conv => lhs; rw [← List.map_id xs]
      exact List.map_congr_left fun x hx' => e x hx'
    · rw [List.length_map, hx.length_eq, List.length_map, List.length_map]; exact hl
  refine c_ops ?_
  refine r_op (o_mov (s_no ?_))
  dsimp only [putF, rd, Frame.get]
  refine r_op (o_call ?_)
  dsimp only [List.map, putF, rd, Frame.get]
  refine Keys_walk.more hS fun r m' S h hS => ?_; obtain ⟨l1, v1, rfl, rfl⟩ := h
  refine s_no ?_
  refine r_op (o_call ?_)
  dsimp only [List.map, putF, rd, Frame.get]
  have hS := hS.eq (m' := (pt l1 (.row v1 0 [.map lm vm]) + pt lm (.mapo vm es)) + (m + (pt l3 (.row v3 2 []) + mf))) (by ac_rfl); refine HC.use (Sorted_walk (by kernel_rfl) (keys_seq (es := es) (l1 := l1) (v1 := v1) (lm := lm) (vm := vm)) hX) hS ?_; rintro r m' S ⟨L, ml, X, hxs, hx, rfl⟩ hS
  refine s_no ?_
  refine r_op ?_
  refine o_len hx.len ?_
  refine s_no ?_
  dsimp only [putF, rd, Frame.get]
  refine r_op (o_mov (s_no ?_))
  dsimp only [putF, rd, Frame.get]
  refine r_nil (c_keep ?_)
  dsimp only [List.map]
  dsimp only [putF, rd, Frame.get]
  rw [hks] at hxs
  have hp := strA_perm hxs
  have hws := WL_keys hn ((sortS_perm L).trans hp) (sortS_lt (hp.nodup_iff.2 hn))
  have hlen : (sortS L).length = L.length := sortS_length L
  have hLl : L.length ≤ 1000000 := by rw [hp.length_eq, List.length_map]; exact hl
  with_reducible (refine on_n ?_; refine c_block ?_)
  refine c_loop (fun k xs S => ∃ (i p v : Nat) (D : List WE) (X : HM), xs = [.sl p v 0 D.length, .int .i64 (i : Int)] ∧ i ≤ L.length ∧ k = L.length - i ∧ D.length = i ∧ wTab D = ((sortS L).take i).map (fun w => (w, tabGet T w)) ∧ Has S (ml + ((pt lm (.mapo vm es) + m) + (pt p (.row v 2 (wCells D)) + (wMem D + (X + mf)))))) L.length ⟨0, l3, v3, [], pt l1 (.row v1 0 [.map lm vm]) + X, rfl, Nat.zero_le _, rfl, rfl, rfl, hS.eq (by show _ = ml + ((pt lm (.mapo vm es) + m) + (pt l3 (.row v3 2 []) + (HM.nil + ((pt l1 (.row v1 0 [.map lm vm]) + X) + mf)))); rw [HM.nil_add]; ac_rfl)⟩ ?_
  clear hS
  rintro k xs S hl' ⟨i, p, v, D, X, rfl, hi, rfl, hD, hT, hS⟩
  dsimp only [zipF, List.map, Frame.get]
  with_reducible (refine c_seq ?_)
  refine c_ops ?_
  refine r_op (o_bin rfl (by first | trivial | (unfold inI64; omega)) (s_no ?_))
  dsimp only [putF, rd, Frame.get]
  refine r_nil (c_keep ?_)
  dsimp only [List.map]
  dsimp only [putF, rd, Frame.get]
  with_reducible (refine on_n ?_; refine c_seq ?_)
  refine c_dec rfl (fun hlt => ?_) (fun hlt => ?_)
  rotate_left
  · obtain rfl : i = L.length := by omega
    with_reducible (refine c_exit ?_; refine on_e ?_; refine on_e ?_; refine ob_e ?_; refine on_n ?_; refine c_seq ?_)
    refine c_ops ?_
    refine r_op (o_mov (s_no ?_))
    dsimp only [putF, rd, Frame.get]
    refine r_op (o_mov (s_no ?_))
    dsimp only [putF, rd, Frame.get]
    refine r_nil (c_keep ?_)
    dsimp only [List.map]
    dsimp only [putF, rd, Frame.get]
    with_reducible (refine on_n ?_; refine c_ret ?_)
    try dsimp only
    unfold _words_Table__List_r
    refine w_tmp (w_nil ?_)
    dsimp only [retV, Frame.get]
    refine ⟨_, ⟨p, v, D, ml + X, rfl, ?_, rfl⟩, hS.eq (by ac_rfl)⟩
    rw [hT, hws, List.take_of_length_le (by omega)]
  have hlt : i < L.length := by omega
  have hi2 : i < (sortS L).length := by omega
  obtain ⟨w, hw⟩ : ∃ w, (sortS L)[i]? = some w := ⟨_, List.getElem?_eq_getElem hi2⟩
  have hwT : w ∈ T.map (·.1) := hp.mem_iff.1 ((sortS_perm L).mem_iff.1 (List.mem_of_getElem? hw))
  obtain ⟨j, q, u, R, hkey, rfl⟩ := ht.at_ hn hwT
  have ha : (tabGet T w).length ≤ 1000000 := by
    obtain ⟨x, hx, rfl⟩ := List.mem_map.1 hwT
    rw [tab_get hn hx]; exact hl2 x hx
  have hap : 0 < (tabGet T w).length := by
    obtain ⟨x, hx, rfl⟩ := List.mem_map.1 hwT
    rw [tab_get hn hx]; exact List.length_pos_iff.2 (hpos x hx)
  rcases hx with ⟨rfl, h0, _, _⟩ | ⟨q2, u2, rfl, rfl, h2⟩
  · omega
  have htk : takeN 1 ((strsV (sortS L)).drop i) = some [.str w] := by
    rw [List.drop_eq_getElem_cons (by simpa using hi2)]
    simp [takeN, List.getElem?_eq_some_iff.1 hw |>.2]
  have htk' : takeN 1 ((strsV (sortS L)).drop (0 + i * 1)) = some [.str w] := by rw [Nat.zero_add, Nat.mul_one]; exact htk
  with_reducible (refine c_skip ?_; refine on_n ?_; refine c_seq ?_; refine c_block ?_; refine c_seq ?_)
  refine c_ops ?_
  refine r_op (o_iaddr hS rfl rfl rfl (by omega) (s_no ?_))
  dsimp only [putF, rd, Frame.get]
  simp only [Nat.zero_mul, Nat.mul_zero, Nat.mul_one, Nat.add_zero, Nat.zero_add, Nat.sub_zero, Nat.reduceAdd, Nat.reduceMul]
  refine r_op (o_load hS rfl rfl (by assumption) rfl (s_no ?_))
  dsimp only [putF, rd, Frame.get]
  refine r_op (o_mov (s_no ?_))
  dsimp only [putF, rd, Frame.get]
  refine r_nil (c_keep ?_)
  dsimp only [List.map]
  dsimp only [putF, rd, Frame.get]
  with_reducible (refine on_n ?_)
  refine c_ops ?_
  refine r_op (o_mov (s_no ?_))
  dsimp only [putF, rd, Frame.get]
  refine r_op (o_mov (s_no ?_))
  dsimp only [putF, rd, Frame.get]
  refine r_op (o_mov (s_no ?_))
  dsimp only [putF, rd, Frame.get]
  refine r_op (o_mov (s_no ?_))
  dsimp only [putF, rd, Frame.get]
  refine r_op ?_
  refine o_mlook hS rfl rfl rfl hk ?_; dsimp only [putF, rd, Frame.get]; rw [lookM_some hkey]; dsimp only [lookV]
  refine s_no ?_
  refine r_op (o_call ?_)
  dsimp only [List.map, putF, rd, Frame.get]
  refine HC.use (Clone_walk (x := .sl q u 0 (tabGet T w).length) (cells := (tabGet T w).map (AVal.int .i64)) (ml := pt q (.row u 1 ((tabGet T w).map (AVal.int .i64)))) (.inr ⟨q, u, rfl, rfl, by rw [List.length_map, Nat.mul_one]⟩) ha) hS ?_; rintro r m' S ⟨m2, X2, hc, rfl⟩ hS; rcases hc with ⟨_, h0, _, _⟩ | ⟨q3, u3, rfl, rfl, h3⟩; (· omega)
  refine s_no ?_
  refine r_op (o_build rfl (s_no ?_))
  dsimp only [putF, rd, Frame.get, setCells, over]
  refine r_op (o_bsliceR rfl (s_no ?_))
  dsimp only [putF, rd, Frame.get, setCells, over]
  refine r_op ?_
  refine o_appendX hS rfl (SrcOf.one rfl) rfl (wCells_len D) (by omega) fun v22 S hS => ?_
  refine s_no ?_
  dsimp only [putF, rd, Frame.get]
  refine r_op (o_mov (s_no ?_))
  dsimp only [putF, rd, Frame.get]
  refine r_nil (c_keep ?_)
  dsimp only [List.map]
  dsimp only [putF, rd, Frame.get]
  with_reducible (refine ob_n ?_; refine on_n ?_)
  refine c_ops ?_
  refine r_op (o_bin rfl (by first | trivial | (unfold inI64; omega)) (s_no ?_))
  dsimp only [putF, rd, Frame.get]
  refine r_op (o_mov (s_no ?_))
  dsimp only [putF, rd, Frame.get]
  refine r_nil (c_keep ?_)
  dsimp only [List.map]
  dsimp only [putF, rd, Frame.get]
  with_reducible (refine on_n ?_)
  refine ⟨L.length - (i + 1), by omega, i + 1, p, v22, D ++ [(w, tabGet T w, q3, u3)], X2 + X, ?_, by omega, rfl, by rw [List.length_append, hD]; rfl, ?_, hS.eq ?_⟩
  · rw [List.length_append]; rfl
  · unfold wTab at *
    rw [List.map_append, hT, List.take_add_one, hw]
    simp
  · rw [wCells_append, wMem_append]
    show _ = _ + (_ + (pt p (.row v22 2 (wCells D ++ (wCs (w, tabGet T w, q3, u3) ++ []))) + ((wMem D + (pt q3 (.row u3 1 ((tabGet T w).map (.int .i64))) + HM.nil)) + ((X2 + X) + mf))))
    rw [HM.add_nil, List.append_nil]
    show _ = _ + (_ + (pt p (.row v22 2 (wCells D ++ [.str w, .sl q3 u3 0 (tabGet T w).length])) + _))
    ac_rfl
theorem wMem_has {D D' : List WE} {S : Store} {m : HM} (hS : Has S (wMem D + m)) {d : WE} (hd : d ∈ D) : ∃ R, Has S (pt d.2.2.1 (.row d.2.2.2 1 (d.2.1.map (.int .i64))) + R) := by
  induction D generalizing m with
  | nil => cases hd
  | cons e D ih =>
    simp only [wMem] at hS
    rcases List.mem_cons.1 hd with rfl | hd
    · exact ⟨_, hS.eq (m' := _ + (wMem D + m)) (by ac_rfl)⟩
    · exact ih (hS.eq (m' := wMem D + (pt e.2.2.1 (.row e.2.2.2 1 (e.2.1.map (.int .i64))) + m)) (by ac_rfl)) hd
theorem int_cells (l : List Int) : l.map (AVal.int .i64) = l.flatMap (encT tI) := by
  induction l with
  | nil => rfl
  | cons a l ih => exact congrArg (fun z => AVal.int .i64 a :: z) ih
theorem int_dT (S : Store) (n : Nat) (l : List Int) : (l.map (AVal.int .i64)).map (derefT S n) = l.map (AVal.int .i64) := by
  rw [List.map_map]; exact List.map_congr_left fun x _ => derefT_int _ _
/-- The words' cells, frozen. -/
theorem wCells_dT {D : List WE} {S : Store} {m : HM} (hS : Has S (wMem D + m)) (n : Nat) : (wCells D).map (derefT S (n + 1)) = (wTab D).flatMap (encT tWord) := by
  induction D generalizing m with
  | nil => rfl
  | cons d D ih =>
    simp only [wMem] at hS
    have h1 := ih (hS.eq (m' := wMem D + (pt d.2.2.1 (.row d.2.2.2 1 (d.2.1.map (.int .i64))) + m)) (by ac_rfl))
    have h2 : Has S (pt d.2.2.1 (.row d.2.2.2 1 (d.2.1.map (.int .i64))) + (wMem D + m)) := hS.eq (by ac_rfl)
    show (wCs d ++ wCells D).map _ = encT tWord (d.1, d.2.1) ++ (wTab D).flatMap (encT tWord)
    rw [List.map_append, h1]
    congr 1
    show [derefT S (n + 1) (.str d.1), derefT S (n + 1) (.sl d.2.2.1 d.2.2.2 0 d.2.1.length)] = _
    rw [derefT_str, derefT_row h2, Nat.mul_one]
    have e : subL (d.2.1.map (AVal.int .i64)) 0 d.2.1.length = d.2.1.map (AVal.int .i64) := by unfold subL; rw [List.drop_zero, List.take_of_length_le (by rw [List.length_map]; exact Nat.le_refl _)]
    rw [e, int_dT, int_cells]
    rfl
theorem wList_dT {D : List WE} {S : Store} {m : HM} {p v : Nat} (hS : Has S (pt p (.row v 2 (wCells D)) + (wMem D + m))) (n : Nat) : derefT S (n + 2) (.sl p v 0 D.length) = encA (.sl tWord) (wTab D) := by
  rw [derefT_row hS, ← wCells_len]
  have e : subL (wCells D) 0 (wCells D).length = wCells D := by unfold subL; rw [List.drop_zero, List.take_of_length_le (Nat.le_refl _)]
  rw [e, wCells_dT (m := pt p (.row v 2 (wCells D)) + m) (hS.eq (by ac_rfl))]
  show AVal.ros D.length _ = AVal.ros (wTab D).length _
  unfold wTab; rw [List.length_map]

theorem All_walk (hP : Con Try.prog f_words_part words_part_ct) (s : Bytes) (hs : fitS s) : HC Try.prog f_words_All [.str s] HM.nil fun r m' => (600 < s.length ∧ r = .tup [.nils, .int .i64 1]) ∨ (¬ 600 < s.length ∧ ∃ p v D X, r = .tup [.sl p v 0 D.length, .int .i64 0] ∧ wTab D = WL (tabOf s) ∧ m' = pt p (.row v 2 (wCells D)) + (wMem D + X)) := by
  intro S mf hS
  rw [HM.nil_add] at hS
  refine words_All_ok.out rfl ?_ (by simp [words_All_fi])
  unfold vcFun words_All_fi
  dsimp only
  unfold words_All_c
  dsimp only [argF]
  with_reducible (refine c_seq ?_)
  refine c_ops ?_
  refine r_op (o_mov (s_no ?_))
  dsimp only [putF, rd, Frame.get]
  refine r_op (o_mov (s_no ?_))
  dsimp only [putF, rd, Frame.get]
  refine r_nil (c_keep ?_)
  dsimp only [List.map]
  dsimp only [putF, rd, Frame.get]
  with_reducible (refine on_n ?_; refine c_seq ?_; refine c_seq ?_)
  refine c_ops ?_
  refine r_op (o_mov (s_no ?_))
  dsimp only [putF, rd, Frame.get]
  refine r_op (o_len rfl (s_no ?_))
  dsimp only [putF, rd, Frame.get]
  refine r_op (o_bin rfl (by first | trivial | (unfold inI64; omega)) (s_no ?_))
  dsimp only [putF, rd, Frame.get]
  refine r_nil (c_keep ?_)
  dsimp only [List.map]
  dsimp only [putF, rd, Frame.get]
  with_reducible (refine on_n ?_)
  refine c_dec rfl (fun hc => ?_) (fun hc => ?_)
  · with_reducible (refine c_seq ?_)
    refine c_ops ?_
    refine r_op (o_mov (s_no ?_))
    dsimp only [putF, rd, Frame.get]
    refine r_op (o_mov (s_no ?_))
    dsimp only [putF, rd, Frame.get]
    refine r_nil (c_keep ?_)
    dsimp only [List.map]
    dsimp only [putF, rd, Frame.get]
    with_reducible (refine on_n ?_; refine c_ret ?_; refine on_r ?_)
    try dsimp only
    unfold words_All_r
    refine w_tmp (w_tmp (w_nil ?_))
    dsimp only [retV, Frame.get]
    exact ⟨HM.nil, .inl ⟨by omega, rfl⟩, by rw [HM.nil_add]; exact hS⟩
  have h6 : ¬ 600 < s.length := by omega
  have hl := tabOf_len s
  with_reducible (refine c_skip ?_; refine on_n ?_; refine c_seq ?_)
  refine c_ops ?_
  refine r_op (o_mov (s_no ?_))
  dsimp only [putF, rd, Frame.get]
  refine r_op (o_call ?_)
  dsimp only [List.map, putF, rd, Frame.get]
  refine (Of_walk hP s (by omega)).more hS fun r m' S h hS => ?_; obtain ⟨lm, vm, es, m, X, rfl, ht, rfl⟩ := h; have hS := hS.eq (m' := (pt lm (.mapo vm es) + m) + (X + mf)) (by ac_rfl)
  refine s_no ?_
  refine r_op (o_call ?_)
  dsimp only [List.map, putF, rd, Frame.get]
  refine HC.use (List_walk ht (tabOf_nodup s) (by omega) (fun x hx => by rw [tabOf_mem hx]; have := findW_len s x.1; omega) (tabFold_pos _ (fun x hx => by cases hx)) (lm := lm) (vm := vm)) hS ?_; rintro r m' S ⟨p, v, D, X2, rfl, hD, rfl⟩ hS
  refine s_no ?_
  refine r_op (o_mov (s_no ?_))
  dsimp only [putF, rd, Frame.get]
  refine r_op (o_mov (s_no ?_))
  dsimp only [putF, rd, Frame.get]
  refine r_nil (c_keep ?_)
  dsimp only [List.map]
  dsimp only [putF, rd, Frame.get]
  with_reducible (refine on_n ?_; refine c_ret ?_)
  try dsimp only
  unfold words_All_r
  refine w_tmp (w_tmp (w_nil ?_))
  dsimp only [retV, Frame.get]
  exact ⟨_, .inr ⟨h6, p, v, D, (pt lm (.mapo vm es) + m) + (X2 + X), rfl, hD, rfl⟩, hS.eq (by ac_rfl)⟩
theorem words_All_con' (hP : Con Try.prog f_words_part words_part_ct) : Con Try.prog f_words_All words_All_ct := by
  refine ⟨words_All_ok.able rfl, fun s hp => ?_⟩
  have hs : fitS s := hp
  have h := RC.ofT (r0 := .tup [encA (.sl tWord) (wordsAll s).1, encA tI (wordsAll s).2]) 3 (All_walk hP s hs) fun r m' S' h hS => by
    rcases h with ⟨h, rfl⟩ | ⟨h, p, v, D, X, rfl, hD, rfl⟩
    · unfold wordsAll; rw [if_pos h]; rfl
    · unfold wordsAll; rw [if_neg h]
      show AVal.tup [derefT S' 2 _, derefT S' 2 _] = _
      rw [wList_dT hS 0, hD]; rfl
  exact ACalls.weak h fun r S' e => ⟨_, id, [], LeV.refl _, has_none, [encA (.sl tWord) (wordsAll s).1, encA tI (wordsAll s).2], ⟨_, rfl, _, rfl, rfl, rfl⟩, e⟩
end Go.Proofs.Ytmpmlnjiolbplaa.W
