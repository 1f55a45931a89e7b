/- Words of a text that is changed: the whole. Conditions: none. -/
import Derived.Test.YtmpmlnjiolbplaaW5
set_option linter.unusedVariables false
set_option linter.unusedSimpArgs false
set_option maxRecDepth 100000
namespace Go.Proofs.Ytmpmlnjiolbplaa.U
open Go.Vc Go.Fu Go.Proofs.Ytmpmlnjiolbplaa.W
theorem putI {T : WTab} {es : List (AVal × AVal)} {m : HM} (h : Tab T es m) (w : Bytes) (n : Int) : (keyAt (.str w) es = none ∧ tabGet T w = [] ∧ ∀ p v, Tab (tabPut T (w, n)) (es ++ [(.str w, .sl p v 0 1)]) (m + pt p (.row v 1 [.int .i64 n]))) ∨
    ∃ j p v R, keyAt (.str w) es = some (j, .sl p v 0 (tabGet T w).length) ∧ m = pt p (.row v 1 ((tabGet T w).map (.int .i64))) + R ∧ ∀ v', Tab (tabPut T (w, n)) (es.set j (.str w, .sl p v' 0 ((tabGet T w).length + 1))) (pt p (.row v' 1 ((tabGet T w).map (.int .i64) ++ [.int .i64 n])) + R) := by
  induction h with
  | nil => exact .inl ⟨rfl, rfl, fun p v => by rw [HM.nil_add]; exact (HM.add_nil (pt p (.row v 1 [.int .i64 n]))) ▸ Tab.cons (w := w) (a := [n]) p v .nil⟩
  | @cons u a T es m p v h ih =>
    by_cases e : u = w
    · subst e
      refine .inr ⟨0, p, v, m, ?_, ?_, fun v' => ?_⟩
      · simp [keyAt, keySame, tabGet]
      · simp [tabGet]
      · have := Tab.cons (w := u) (a := a ++ [n]) p v' h
        simpa [tabGet, tabPut] using this
    · have k1 : keySame (.str w) (.str u) = false := by simp only [keySame, beq_eq_false_iff_ne]; exact fun q => e q.symm
      have k2 : tabGet ((u, a) :: T) w = tabGet T w := by simp only [tabGet]; rw [if_neg e]
      have k3 : tabPut ((u, a) :: T) (w, n) = (u, a) :: tabPut T (w, n) := by simp only [tabPut]; rw [if_neg e]
      rw [k2, k3]
      rcases ih with ⟨g1, g2, g3⟩ | ⟨j, p', v', R, g1, g2, g3⟩
      · refine .inl ⟨?_, g2, fun p' v' => ?_⟩
        · unfold keyAt; rw [k1, g1]
        · have := Tab.cons (w := u) (a := a) p v (g3 p' v')
          rw [show pt p (.row v 1 (a.map (.int .i64))) + m + pt p' (.row v' 1 [.int .i64 n]) = pt p (.row v 1 (a.map (.int .i64))) + (m + pt p' (.row v' 1 [.int .i64 n])) by ac_rfl]; exact this
      · refine .inr ⟨j + 1, p', v', pt p (.row v 1 (a.map (.int .i64))) + R, ?_, ?_, fun v2 => ?_⟩
        · unfold keyAt; rw [k1, g1]
        · rw [g2]; ac_rfl
        · have := Tab.cons (w := u) (a := a) p v (g3 v2)
          rw [show pt p' (.row v2 1 ((tabGet T w).map (.int .i64) ++ [.int .i64 n])) + (pt p (.row v 1 (a.map (.int .i64))) + R) = pt p (.row v 1 (a.map (.int .i64))) + (pt p' (.row v2 1 ((tabGet T w).map (.int .i64) ++ [.int .i64 n])) + R) by ac_rfl]
          exact this
theorem put_len (L : List WI) (w : Bytes) : (tabGet (L.foldl tabPut []) w).length ≤ L.length := by
  rw [putFold_get]
  simp only [tabGet, List.nil_append, List.length_map]
  exact List.length_filter_le _ _

theorem add2_walk {l3 v3 lm vm : Nat} {T : WTab} {es : List (AVal × AVal)} {m : HM} (ht : Tab T es m) (w : Bytes) (n : Int) (hl : (tabGet T w).length ≤ 1000000) :
    HC Try.prog f_words_Update_2 [.str w, .int .i64 n, .ptr l3 v3 0] (TabM l3 v3 lm vm es m) fun r m' => ∃ es' mm X, Tab (tabPut T (w, n)) es' mm ∧ m' = TabM l3 v3 lm vm es' mm + X := by
  intro S mf hS
  have hk := ht.keys
  refine words_Update_2_ok.out rfl ?_ (by simp [words_Update_2_fi])
  unfold vcFun words_Update_2_fi
  dsimp only
  unfold words_Update_2_c
  dsimp only [argF]
  rcases putI ht w n with ⟨g1, g2, g3⟩ | ⟨j, p, v, R, g1, rfl, g3⟩
  · skip
    refine c_opsD0 hS fun S hS => ?_
    refine d_zero ?_
    refine r_op (o_load hS rfl rfl rfl rfl (s_no ?_))
    dsimp only [putF, rd, Frame.get]
    refine r_op (o_mov (s_no ?_))
    dsimp only [putF, rd, Frame.get]
    refine r_op (o_load hS rfl rfl rfl rfl (s_no ?_))
    dsimp only [putF, rd, Frame.get]
    refine r_op (o_mov (s_no ?_))
    dsimp only [putF, rd, Frame.get]
    refine r_op ?_
    refine o_mlook hS rfl rfl rfl hk ?_; dsimp only [putF, rd, Frame.get]; rw [lookM_none g1]; dsimp only [lookV]
    refine s_no ?_
    refine r_op (o_mov (s_no ?_))
    dsimp only [putF, rd, Frame.get]
    refine r_op (o_bsliceR rfl (s_no ?_))
    dsimp only [putF, rd, Frame.get, setCells, over]
    refine r_op ?_
    refine o_appendN hS rfl (SrcOf.one rfl) (by omega) fun v12 l12 S hS => ?_
    refine s_no ?_
    dsimp only [putF, rd, Frame.get]
    refine r_op (o_again hS rfl rfl rfl rfl rfl (s_no ?_))
    dsimp only [putF, rd, Frame.get]
    refine r_op (o_mupd hS rfl rfl rfl (by assumption) fun S hS => s_no ?_)
    dsimp only [putF, rd, Frame.get]
    dsimp only [putF, rd, Frame.get, setCells, over] at hS
    refine r_nil (c_keep ?_)
    dsimp only [List.map]
    try dsimp only
    unfold words_Update_2_r
    refine w_nil ?_
    dsimp only [retV, Frame.get]
    rw [keyPut_none g1] at hS
    refine ⟨_, ⟨_, _, HM.nil, g3 l12 v12, rfl⟩, hS.eq ?_⟩
    rw [HM.add_nil]
    show _ = pt l3 (.row v3 0 [.map lm vm]) + (pt lm (.mapo vm (es ++ [(.str w, .sl l12 v12 0 1)])) + (m + pt l12 (.row v12 1 [.int .i64 n]))) + mf
    ac_rfl
  · skip
    refine c_opsD0 hS fun S hS => ?_
    refine d_zero ?_
    refine r_op (o_load hS rfl rfl rfl rfl (s_no ?_))
    dsimp only [putF, rd, Frame.get]
    refine r_op (o_mov (s_no ?_))
    dsimp only [putF, rd, Frame.get]
    refine r_op (o_load hS rfl rfl rfl rfl (s_no ?_))
    dsimp only [putF, rd, Frame.get]
    refine r_op (o_mov (s_no ?_))
    dsimp only [putF, rd, Frame.get]
    refine r_op ?_
    refine o_mlook hS rfl rfl rfl hk ?_; dsimp only [putF, rd, Frame.get]; rw [lookM_some g1]; dsimp only [lookV]
    refine s_no ?_
    refine r_op (o_mov (s_no ?_))
    dsimp only [putF, rd, Frame.get]
    refine r_op (o_bsliceR rfl (s_no ?_))
    dsimp only [putF, rd, Frame.get, setCells, over]
    refine r_op ?_
    refine o_appendX hS rfl (SrcOf.one rfl) rfl (by rw [List.length_map]; omega) (by omega) fun v12 S hS => ?_
    refine s_no ?_
    dsimp only [putF, rd, Frame.get]
    refine r_op (o_again hS rfl rfl rfl rfl rfl (s_no ?_))
    dsimp only [putF, rd, Frame.get]
    refine r_op (o_mupd hS rfl rfl rfl (by assumption) fun S hS => s_no ?_)
    dsimp only [putF, rd, Frame.get]
    dsimp only [putF, rd, Frame.get, setCells, over] at hS
    refine r_nil (c_keep ?_)
    dsimp only [List.map]
    try dsimp only
    unfold words_Update_2_r
    refine w_nil ?_
    dsimp only [retV, Frame.get]
    rw [keyPut_some g1] at hS
    refine ⟨_, ⟨_, _, HM.nil, g3 v12, rfl⟩, hS.eq ?_⟩
    rw [HM.add_nil]
theorem ListF {T : WTab} {es : List (AVal × AVal)} {m : HM} (ht : Tab T es m) (hn : (T.map (·.1)).Nodup) (hl : T.length ≤ 1000000) (hl2 : ∀ x ∈ T, x.2.length ≤ 1000000) (hpos : ∀ x ∈ T, x.2 ≠ []) {lm vm : Nat} :
    HC Try.prog f__words_Table__List [.map lm vm] (pt lm (.mapo vm es) + m) fun r m' => r = encA (.sl tWord) (WL T) ∧ ∃ X, m' = (pt lm (.mapo vm es) + m) + X :=
  (List_walk ht hn hl hl2 hpos (lm := lm) (vm := vm)).freeze 2 fun r m' ⟨p, v, D, X, h1, h2, h3⟩ =>
    ⟨(pt lm (.mapo vm es) + m) + X, pt p (.row v 2 (wCells D)) + wMem D, _, by rw [h3]; ac_rfl, fun Sz hz => by rw [h1]; exact (wList_dT (m := HM.nil) (hz.eq (by rw [HM.add_nil])) 0).trans (by rw [h2]), rfl, X, rfl⟩
/-- A table as its words' rows. -/
def wEs (D : List WE) : List (AVal × AVal) := D.map fun d => (.str d.1, .sl d.2.2.1 d.2.2.2 0 d.2.1.length)
theorem tab_toD {T : WTab} {es : List (AVal × AVal)} {m : HM} (h : Tab T es m) : ∃ D, wTab D = T ∧ es = wEs D ∧ m = wMem D := by
  induction h with
  | nil => exact ⟨[], rfl, rfl, rfl⟩
  | @cons w a T es m p v h ih =>
    obtain ⟨D, h1, h2, h3⟩ := ih
    exact ⟨(w, a, p, v) :: D, by rw [← h1]; rfl, by rw [h2]; rfl, by rw [h3]; rfl⟩
theorem tab_ofD : ∀ (D : List WE), Tab (wTab D) (wEs D) (wMem D)
  | [] => .nil
  | d :: D => .cons (w := d.1) (a := d.2.1) d.2.2.1 d.2.2.2 (tab_ofD D)
def sd (d : WE) : WE := (d.1, srt d.2.1, d.2.2.1, d.2.2.2)
def sdAt (seen : List Nat) (D : List WE) : List WE := D.mapIdx fun i d => if i ∈ seen then sd d else d
theorem srt_len (l : List Int) : (srt l).length = l.length := (srt_perm l).length_eq
theorem sdAt_es (seen : List Nat) (D : List WE) : wEs (sdAt seen D) = wEs D := by
  unfold wEs sdAt
  refine List.ext_getElem (by simp) fun i h1 h2 => ?_
  simp only [List.getElem_map, List.getElem_mapIdx]
  split
  · simp [sd, srt_len]
  · rfl
theorem sdAt_nil (D : List WE) : sdAt [] D = D := by
  unfold sdAt; exact List.ext_getElem (by simp) fun i h1 h2 => by simp
theorem sdAt_all {seen : List Nat} {D : List WE} (h : ∀ i, i < D.length → i ∈ seen) : sdAt seen D = D.map sd := by
  unfold sdAt
  refine List.ext_getElem (by simp) fun i h1 h2 => ?_
  simp only [List.length_mapIdx] at h1
  simp [h i h1]
theorem sdAt_step {seen : List Nat} {D : List WE} {i : Nat} {d : WE} (hd : D[i]? = some d) (hn : i ∉ seen) : ∃ A B, sdAt seen D = A ++ d :: B ∧ sdAt (seen ++ [i]) D = A ++ sd d :: B := by
  have hi := (List.getElem?_eq_some_iff.1 hd).1
  have hg := (List.getElem?_eq_some_iff.1 hd).2
  have hl : (sdAt seen D).length = D.length := by unfold sdAt; simp
  refine ⟨(sdAt seen D).take i, (sdAt seen D).drop (i + 1), ?_, ?_⟩
  · have e : (sdAt seen D)[i]'(by omega) = d := by unfold sdAt; simp [hn, hg]
    rw [← e, List.getElem_cons_drop, List.take_append_drop]
  · refine List.ext_getElem (by simp [sdAt]; omega) fun j h1 h2 => ?_
    have hj : j < D.length := by simpa [sdAt] using h1
    by_cases c : j = i
    · subst c
      rw [List.getElem_append_right (by simp [sdAt]; omega)]
      simp [sdAt, hg, Nat.min_eq_left (Nat.le_of_lt hi)]
    · by_cases c2 : j < i
      · rw [List.getElem_append_left (by simp [sdAt]; omega)]
        simp [sdAt, c]
      · rw [List.getElem_append_right (by simp [sdAt]; omega)]
        have e : j - ((sdAt seen D).take i).length = (j - (i + 1)) + 1 := by simp [sdAt]; omega
        simp only [e, List.getElem_cons_succ, List.getElem_drop]
        simp only [sdAt, List.getElem_mapIdx, List.mem_append, List.mem_singleton, c, or_false, show i + 1 + (j - (i + 1)) = j by omega]
theorem wTab_sd (D : List WE) : wTab (D.map sd) = sortT (wTab D) := by
  unfold wTab sortT; rw [List.map_map, List.map_map]; rfl
theorem flat_at {l : WTab} {j : Nat} {x : Bytes × List Int} (h : l[j]? = some x) : flatI (l.take (j + 1)) = flatI (l.take j) ++ x.2.map fun a => (x.1, a) := by
  unfold flatI
  rw [List.take_add_one, h, List.flatMap_append]; simp
end Go.Proofs.Ytmpmlnjiolbplaa.U
