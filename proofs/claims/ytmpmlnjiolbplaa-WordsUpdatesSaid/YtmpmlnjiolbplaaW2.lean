/- The keys of a table, in order; the list of a table: walked. Conditions: none. -/
import Derived.Test.YtmpmlnjiolbplaaW1
import Derived.Test.YtmpmlnjiolbplaaVpWB
import Derived.Test.YtmpmlnjiolbplaaVh8
import Derived.Test.YtmpmlnjiolbplaaVyS
import Derived.Test.YtmpmlnjiolbplaaVyT
import Derived.Test.YtmpmlnjiolbplaaLayI
set_option linter.unusedVariables false
set_option linter.unusedSimpArgs false
set_option maxRecDepth 100000
namespace Go.Proofs.Ytmpmlnjiolbplaa.W
open Go.Vc Go.Fu
theorem ssort_hc {P : Program} {ρ : Go.Shelf.Ren} (L : SlLaysM.n6 P ρ) (ha : callable P (ρ.f 6) = true) {p v n : Nat} {ls : List (List UInt8)} (hn : ls.length = n) (hl : ls.length < 4611686018427387904) :
    HC P (ρ.f 6) [.sl p v 0 n] (pt p (.row v 1 (strsV ls))) fun r m' => r = .tup [] ∧ m' = pt p (.row v 1 (strsV (sortS ls))) := by
  subst hn
  intro S mf hS
  exact (ssort_calls L ha hS.get hl).mono fun r S' ⟨h1, h2⟩ => ⟨_, ⟨h1, rfl⟩, h2 ▸ hS.put _⟩
theorem ssort_nil_hc {P : Program} {ρ : Go.Shelf.Ren} (L : SlLaysM.n6 P ρ) (ha : callable P (ρ.f 6) = true) : HC P (ρ.f 6) [.nils] HM.nil fun r m' => r = .tup [] ∧ m' = HM.nil := by
  intro S mf hS
  refine ⟨fun E fz w vals st hrel => ?_⟩
  simp only [RelL] at hrel
  obtain ⟨v1, _, rfl, r1, rfl⟩ := hrel
  simp only [Rel] at r1
  subst r1
  refine .inl ⟨ha, (AnyM.slices_Sort_string_none L none 0 w).mono ?_⟩
  rintro e w' ⟨rfl, rfl⟩
  exact ⟨.tup [], _, .tuple #[], E, fz, rfl, Ext.refl, st, by simp only [Rel, RelL]; exact ⟨[], rfl, rfl⟩, _, ⟨rfl, rfl⟩, hS⟩
theorem ssort_con : ∃ ρ, SlLaysM.n6 Try.prog ρ ∧ ρ.f 6 = f_slices_Sort___string_string_ := ⟨_, Try.sortS, rfl⟩
theorem SortS_hc {x : AVal} {ls : List (List UInt8)} {ml : HM} (hs : SlW 1 x (strsV ls) ls.length ml) (hl : ls.length < 4611686018427387904) : HC Try.prog f_slices_Sort___string_string_ [x] ml fun r m' => r = .tup [] ∧ SlW 1 x (strsV (sortS ls)) ls.length m' := by
  obtain ⟨ρ, L, e⟩ := ssort_con
  rw [← e]
  have ha : callable Try.prog (ρ.f 6) = true := by rw [e]; kernel_rfl
  rcases hs with ⟨rfl, h1, h2, rfl⟩ | ⟨p, v, rfl, rfl, h⟩
  · have h0 : ls = [] := List.length_eq_zero_iff.1 h1
    subst h0
    exact (ssort_nil_hc L ha).mono fun r m' ⟨h3, h4⟩ => ⟨h3, .inl ⟨rfl, rfl, by simp [sortS], h4⟩⟩
  · exact (ssort_hc L ha rfl hl).mono fun r m' ⟨h3, h4⟩ => ⟨h3, .inr ⟨p, v, rfl, h4, by rw [List.length_map, sortS_length]; omega⟩⟩
theorem sortS_perm (ls : List (List UInt8)) : (sortS ls).Perm ls := List.mergeSort_perm _ _
theorem sortS_lt {ls : List (List UInt8)} (h : ls.Nodup) : (sortS ls).Pairwise fun a b => a < b := by
  have h1 : (sortS ls).Pairwise fun a b => decide (a ≤ b) = true := List.pairwise_mergeSort (fun a b c h1 h2 => by
    simp only [decide_eq_true_eq] at *; exact List.le_trans h1 h2) (fun a b => by
    simp only [Bool.or_eq_true, decide_eq_true_eq]; exact List.le_total a b) ls
  have h2 : (sortS ls).Nodup := (sortS_perm ls).nodup_iff.2 h
  exact (h1.and (List.nodup_iff_pairwise_ne.1 h2)).imp fun {a b} q => (str_lt_iff _ _).2 ⟨by simpa using q.1, q.2⟩
def strA (s : List UInt8) : List AVal := [.str s]
def keysOf (es : List (AVal × AVal)) : List (List AVal) := es.map fun e => [e.1]
theorem seen_perm {seen : List Nat} {n : Nat} (h1 : seen.Nodup) (h2 : ∀ i ∈ seen, i < n) (h3 : ∀ i, i < n → i ∈ seen) : seen.Perm (List.range n) :=
  (List.perm_ext_iff_of_nodup h1 List.nodup_range).2 fun i => ⟨fun h => List.mem_range.2 (h2 i h), fun h => h3 i (List.mem_range.1 h)⟩
theorem seen_more {seen : List Nat} {n : Nat} (h1 : seen.Nodup) (h2 : ∀ i ∈ seen, i < n) : ∃ r, (seen ++ r).Perm (List.range n) := by
  refine ⟨(List.range n).filter fun i => i ∉ seen, (List.perm_ext_iff_of_nodup (List.nodup_append.2 ⟨h1, List.nodup_range.sublist List.filter_sublist, fun a ha b hb => ?_⟩) List.nodup_range).2 fun i => ?_⟩
  · rintro rfl
    have := (List.mem_filter.1 hb).2
    simp at this; exact this ha
  · simp only [List.mem_append, List.mem_filter, List.mem_range, decide_eq_true_eq]
    constructor
    · rintro (h | h)
      · exact h2 i h
      · exact h.1
    · intro h
      by_cases c : i ∈ seen
      · exact .inl c
      · exact .inr ⟨h, c⟩
theorem seen_len {seen : List Nat} {n : Nat} (h1 : seen.Nodup) (h2 : ∀ i ∈ seen, i < n) : seen.length ≤ n := by
  obtain ⟨r, h⟩ := seen_more h1 h2
  have := h.length_eq
  rw [List.length_append, List.length_range] at this; omega
theorem map_range_keys (es : List (AVal × AVal)) : (List.range es.length).map (fun i => [(es.getD i (.junk, .junk)).1]) = keysOf es := by
  unfold keysOf
  refine List.ext_getElem (by simp) fun i h1 h2 => ?_
  simp only [List.length_map, List.length_range] at h1
  simp [List.getD, List.getElem?_eq_getElem h1]

theorem keys_seq {es : List (AVal × AVal)} {l1 v1 lm vm : Nat} : HSeqP Try.prog f_maps_Keys_words_Table_string___int__1 [.ptr l1 v1 0] (fun xs => xs.Perm (keysOf es)) (pt l1 (.row v1 0 [.map lm vm]) + pt lm (.mapo vm es)) := by
  intro b C hY c h0 S mf hS
  refine maps_Keys_words_Table_string___int__1_ok.out rfl ?_ (by simp [maps_Keys_words_Table_string___int__1_fi])
  unfold vcFun maps_Keys_words_Table_string___int__1_fi
  dsimp only
  unfold maps_Keys_words_Table_string___int__1_c
  dsimp only [argF]
  with_reducible (refine c_seq ?_)
  refine c_ops ?_
  refine r_op (o_load hS rfl rfl rfl rfl (s_no ?_))
  dsimp only [putF, rd, Frame.get]
  refine r_op (o_mrange hS rfl rfl fun v5 l5 S hS => s_no ?_)
  dsimp only [putF, rd, Frame.get]
  refine r_nil (c_keep ?_)
  dsimp only [List.map]
  dsimp only [putF, rd, Frame.get]
  with_reducible (refine on_n ?_; refine c_block ?_)
  refine c_loop (fun k xs S => ∃ (seen : List Nat) (c : HM), xs = [] ∧ seen.Nodup ∧ (∀ i ∈ seen, i < es.length) ∧ k = es.length - seen.length ∧ C (seen.map fun i => [(es.getD i (.junk, .junk)).1]) c ∧ Has S (pt l5 (.itero v5 vm es.length es.length seen) + ((pt l1 (.row v1 0 [.map lm vm]) + pt lm (.mapo vm es)) + (c + mf)))) es.length ⟨[], c, rfl, List.nodup_nil, by simp, rfl, h0, hS.eq (by ac_rfl)⟩ ?_
  clear hS h0
  rintro k xs S hl' ⟨seen, c, rfl, hn, hlt, rfl, hC, hS⟩
  dsimp only [zipF, List.map, Frame.get]
  with_reducible (refine c_seq ?_)
  refine c_ops ?_
  refine r_op ?_
  refine o_mnext (lm := lm) hS rfl rfl rfl rfl (fun hall => s_no ?_) (fun i e S hi hns hS => s_no ?_)
  all_goals try dsimp only [putF, rd, Frame.get]
  all_goals (refine r_op (o_extract rfl rfl (s_no ?_)))
  all_goals (try dsimp only [putF, rd, Frame.get])
  all_goals refine r_nil (c_keep ?_)
  all_goals try dsimp only [List.map]
  all_goals try dsimp only [putF, rd, Frame.get]
  · with_reducible (refine on_n ?_; refine c_seq ?_)
    refine c_bool (c := false) rfl (fun h => by cases h) (fun _ => ?_)
    with_reducible (refine c_exit ?_; refine on_e ?_; refine on_e ?_; refine ob_e ?_)
    try dsimp only
    unfold maps_Keys_words_Table_string___int__1_r
    refine w_nil ?_
    dsimp only [retV, Frame.get]
    have hp := seen_perm hn hlt hall
    refine ⟨_, ⟨_, c, pt l5 (.itero v5 vm es.length es.length seen), ?_, hC, rfl⟩, hS.eq (by ac_rfl)⟩
    rw [← map_range_keys]; exact hp.map _
  · with_reducible (refine on_n ?_; refine c_seq ?_)
    refine c_bool (c := true) rfl (fun _ => ?_) (fun h => by cases h)
    have hi' : i < es.length := (List.getElem?_eq_some_iff.1 hi).1
    have hn2 : (seen ++ [i]).Nodup := List.nodup_append.2 ⟨hn, by simp, fun a ha b hb => by rintro rfl; simp only [List.mem_singleton] at hb; exact hns (hb ▸ ha)⟩
    have hlt2 : ∀ j ∈ seen ++ [i], j < es.length := fun j hj => by
      rcases List.mem_append.1 hj with h | h
      · exact hlt j h
      · simp only [List.mem_singleton] at h; omega
    have hle := seen_len hn2 hlt2
    rw [List.length_append, List.length_singleton] at hle
    have hge : (es.getD i (.junk, .junk)).1 = e.1 := by simp [List.getD, hi]
    with_reducible (refine c_skip ?_; refine on_n ?_; refine c_block ?_; refine c_seq ?_)
    refine c_ops ?_
    refine r_op ?_
    refine o_mentry (lm := lm) hS rfl rfl rfl hi ?_
    refine s_no ?_
    dsimp only [putF, rd, Frame.get]
    refine r_op (o_extract rfl rfl (s_no ?_))
    dsimp only [putF, rd, Frame.get]
    refine r_op (o_mov (s_no ?_))
    dsimp only [putF, rd, Frame.get]
    refine r_nil (c_keep ?_)
    dsimp only [List.map]
    dsimp only [putF, rd, Frame.get]
    with_reducible (refine on_n ?_; refine c_seq ?_)
    refine c_ops ?_
    refine r_op (o_mov (s_no ?_))
    dsimp only [putF, rd, Frame.get]
    refine r_op (o_mov (s_no ?_))
    dsimp only [putF, rd, Frame.get]
    refine r_op ?_
    refine o_yield rfl ?_; dsimp only [List.map, putF, rd, Frame.get]; refine (hY (seen.map fun i => [(es.getD i (.junk, .junk)).1]) [e.1] c ?_ hC).use hS fun r m' S h hS => ?_; rotate_left; obtain ⟨rfl, hC'⟩ := h
    refine s_no ?_
    refine r_op (o_not rfl (s_no ?_))
    dsimp only [putF, rd, Frame.get]
    refine r_nil (c_keep ?_)
    dsimp only [List.map]
    dsimp only [putF, rd, Frame.get]
    rotate_left
    · obtain ⟨r, hr⟩ := seen_more hn2 hlt2
      refine ⟨r.map fun i => [(es.getD i (.junk, .junk)).1], ?_⟩
      have := hr.map fun i => [(es.getD i (.junk, .junk)).1]
      rw [map_range_keys] at this
      simpa [hge, hi] using this
    with_reducible (refine on_n ?_)
    refine c_bool (c := !true) rfl (fun h => by cases h) (fun _ => ?_)
    with_reducible (refine c_skip ?_; refine ob_n ?_; refine on_n ?_)
    refine ⟨es.length - (seen ++ [i]).length, by rw [List.length_append, List.length_singleton]; omega, seen ++ [i], m', rfl, hn2, hlt2, rfl, ?_, hS⟩
    rw [List.map_append, List.map_singleton, hge]; exact hC'

theorem Keys_walk {lm vm : Nat} : HC Try.prog f_maps_Keys_words_Table_string___int_ [.map lm vm] HM.nil fun r m' => ∃ l1 v1, r = .fn (.func f_maps_Keys_words_Table_string___int__1) [] [.ptr l1 v1 0] ∧ m' = pt l1 (.row v1 0 [.map lm vm]) := by
  intro S mf hS
  rw [HM.nil_add] at hS
  refine maps_Keys_words_Table_string___int__ok.out rfl ?_ (by simp [maps_Keys_words_Table_string___int__fi])
  unfold vcFun maps_Keys_words_Table_string___int__fi
  dsimp only
  unfold maps_Keys_words_Table_string___int__c
  dsimp only [argF]
  with_reducible (refine c_seq ?_)
  refine c_ops ?_
  refine r_op (o_box hS rfl fun v1 l1 S hS => s_no ?_)
  dsimp only [putF, rd, Frame.get]
  dsimp only [putF, rd, Frame.get, setCells, over] at hS
  refine r_op (o_mov (s_no ?_))
  dsimp only [putF, rd, Frame.get]
  refine r_nil (c_keep ?_)
  dsimp only [List.map]
  dsimp only [putF, rd, Frame.get]
  with_reducible (refine on_n ?_; refine c_seq ?_)
  refine c_ops ?_
  refine r_op (o_mkfunc (s_no ?_))
  dsimp only [putF, rd, Frame.get]
  refine r_op (o_mov (s_no ?_))
  dsimp only [putF, rd, Frame.get]
  refine r_nil (c_keep ?_)
  dsimp only [List.map]
  dsimp only [putF, rd, Frame.get]
  with_reducible (refine on_n ?_; refine c_ret ?_)
  try dsimp only
  unfold maps_Keys_words_Table_string___int__r
  refine w_tmp (w_nil ?_)
  dsimp only [retV, Frame.get]
  exact ⟨_, ⟨l1, v1, rfl, rfl⟩, hS⟩

theorem AppendSeq_walk {g : FuncId} {cap : List AVal} {Xs : List (List AVal) → Prop} {It : HM} (hgc : callable Try.prog g = true) (hseq : HSeqP Try.prog g cap Xs It) (hX : ∀ xs, Xs xs → ∃ L : List (List UInt8), xs = L.map strA ∧ L.length ≤ 1000000) :
    HC Try.prog f_slices_AppendSeq___string_string_ [.nils, .fn (.func g) [] cap] It fun r m' => ∃ (L : List (List UInt8)) (ml X : HM), Xs (L.map strA) ∧ SlW 1 r (strsV L) L.length ml ∧ m' = It + (ml + X) := by
  intro S mf hS
  refine slices_AppendSeq___string_string__ok.out (by simp) ?_
  unfold vcFunL slices_AppendSeq___string_string__c
  dsimp only [argF]
  refine l_seqR ?_
  refine c_ops ?_
  refine r_op (o_box hS rfl fun v2 l2 S hS => s_no ?_)
  dsimp only [putF, rd, Frame.get]
  dsimp only [putF, rd, Frame.get, setCells, over] at hS
  refine r_op (o_mov (s_no ?_))
  dsimp only [putF, rd, Frame.get]
  refine r_nil (c_keep ?_)
  dsimp only [List.map]
  dsimp only [putF, rd, Frame.get]
  with_reducible (refine on_n ?_)
  refine l_seqL (l_seqR ?_)
  refine c_ops ?_
  refine r_op (o_mov (s_no ?_))
  dsimp only [putF, rd, Frame.get]
  refine r_nil (c_keep ?_)
  dsimp only [List.map]
  dsimp only [putF, rd, Frame.get]
  with_reducible (refine on_n ?_)
  refine l_block ?_
  refine l_rangeP (fun pre d => ∃ (L : List (List UInt8)) (x : AVal) (ml : HM), pre = L.map strA ∧ SlW 1 x (strsV L) L.length ml ∧ d = pt l2 (.row v2 0 [x]) + ml)
    (fun pre a F => ∃ s : List UInt8, a = strA s ∧ F = [(2, .ptr l2 v2 0), (5, .str s)]) rfl hgc hseq (hS.eq (m' := (It + (pt l2 (.row v2 0 [.nils]) + HM.nil)) + mf) (by rw [HM.add_nil]; ac_rfl)) ⟨[], .nils, HM.nil, rfl, SlW.nil, rfl⟩ ?_ ?_ ?_ ?_
  · intro xs hx a ha
    obtain ⟨L, rfl, _⟩ := hX xs hx
    obtain ⟨l, _, rfl⟩ := List.mem_map.1 ha
    rfl
  · rintro pre a S ⟨r, hr⟩
    obtain ⟨L, e, _⟩ := hX _ hr
    have ha : a ∈ L.map strA := by rw [← e]; simp
    obtain ⟨s, _, rfl⟩ := List.mem_map.1 ha
    unfold strA
    dsimp only [putsF]
    refine c_ops ?_
    refine r_op (o_mov (s_no ?_))
    dsimp only [putF, rd, Frame.get]
    refine r_nil (c_keep ?_)
    dsimp only [List.map]
    dsimp only [putF, rd, Frame.get]
    exact ⟨rfl, rfl, s, rfl, rfl⟩
  · rintro pre a F1 S d mf ⟨r, hr⟩ ⟨L, x, ml, rfl, hx, rfl⟩ ⟨s, rfl, rfl⟩ hS
    have hlen : L.length + 1 ≤ 1000000 := by
      obtain ⟨L', e, h⟩ := hX _ hr
      have := congrArg List.length e
      simp only [List.length_append, List.length_map, List.length_cons] at this; omega
    with_reducible (refine c_block ?_)
    refine c_ops ?_
    refine r_op (o_load hS rfl rfl rfl rfl (s_no ?_))
    dsimp only [putF, rd, Frame.get]
    refine r_op (o_mov (s_no ?_))
    dsimp only [putF, rd, Frame.get]
    refine r_op (o_bsliceR rfl (s_no ?_))
    dsimp only [putF, rd, Frame.get, setCells, over]
    refine r_op ?_
    refine o_appendW hS rfl hx rfl rfl (by omega) fun x' ml' S hx' hS => ?_
    refine s_no ?_
    dsimp only [putF, rd, Frame.get]
    refine r_op ?_
    refine o_store hS rfl rfl hx'.cl rfl (by simp) fun S hS => ?_; (try dsimp only [putF, rd, Frame.get, setCells, over] at hS)
    refine s_no ?_
    dsimp only [putF, rd, Frame.get]
    refine r_nil (c_keep ?_)
    dsimp only [List.map]
    with_reducible (refine ob_n ?_)
    refine ⟨rfl, _, ⟨L ++ [s], x', ml', by rw [List.map_append, List.map_singleton], ?_, rfl⟩, hS⟩
    rw [List.length_append, List.length_singleton]
    show SlW 1 x' ((L ++ [s]).map AVal.str) _ _
    rw [List.map_append]
    exact hx'
  · rintro xs d X S hxs ⟨L, x, ml, rfl, hx, rfl⟩ hS
    with_reducible (refine ob_n ?_; refine on_n ?_; refine c_seq ?_)
    refine c_ops ?_
    refine r_op (o_load hS rfl rfl rfl rfl (s_no ?_))
    dsimp only [putF, rd, Frame.get]
    refine r_op (o_mov (s_no ?_))
    dsimp only [putF, rd, Frame.get]
    refine r_nil (c_keep ?_)
    dsimp only [List.map]
    dsimp only [putF, rd, Frame.get]
    with_reducible (refine on_n ?_; refine c_ret ?_)
    try dsimp only
    unfold slices_AppendSeq___string_string__r
    refine w_tmp (w_nil ?_)
    dsimp only [retV, Frame.get]
    exact ⟨_, ⟨L, ml, pt l2 (.row v2 0 [x]) + X, hxs, hx, rfl⟩, hS.eq (by ac_rfl)⟩

theorem Collect_walk {g : FuncId} {cap : List AVal} {Xs : List (List AVal) → Prop} {It : HM} (hgc : callable Try.prog g = true) (hseq : HSeqP Try.prog g cap Xs It) (hX : ∀ xs, Xs xs → ∃ L : List (List UInt8), xs = L.map strA ∧ L.length ≤ 1000000) :
    HC Try.prog f_slices_Collect_string_ [.fn (.func g) [] cap] It fun r m' => ∃ (L : List (List UInt8)) (ml X : HM), Xs (L.map strA) ∧ SlW 1 r (strsV L) L.length ml ∧ m' = It + (ml + X) := by
  intro S mf hS
  have hA := AppendSeq_walk hgc hseq hX
  refine slices_Collect_string__ok.out rfl ?_ (by simp [slices_Collect_string__fi])
  unfold vcFun slices_Collect_string__fi
  dsimp only
  unfold slices_Collect_string__c
  dsimp only [argF]
  with_reducible (refine c_seq ?_)
  refine c_ops ?_
  refine r_op (o_mov (s_no ?_))
  dsimp only [putF, rd, Frame.get]
  refine r_nil (c_keep ?_)
  dsimp only [List.map]
  dsimp only [putF, rd, Frame.get]
  with_reducible (refine on_n ?_; refine c_seq ?_)
  refine c_ops ?_
  refine r_op (o_mov (s_no ?_))
  dsimp only [putF, rd, Frame.get]
  refine r_op (o_call ?_)
  dsimp only [List.map, putF, rd, Frame.get]
  refine HC.use hA hS ?_; rintro r m' S ⟨L, ml, X, hxs, hx, rfl⟩ hS
  refine s_no ?_
  refine r_op (o_mov (s_no ?_))
  dsimp only [putF, rd, Frame.get]
  refine r_nil (c_keep ?_)
  dsimp only [List.map]
  dsimp only [putF, rd, Frame.get]
  with_reducible (refine on_n ?_; refine c_ret ?_)
  try dsimp only
  unfold slices_Collect_string__r
  refine w_tmp (w_nil ?_)
  dsimp only [retV, Frame.get]
  exact ⟨_, ⟨L, ml, X, hxs, hx, rfl⟩, hS⟩

theorem Sorted_walk {g : FuncId} {cap : List AVal} {Xs : List (List AVal) → Prop} {It : HM} (hgc : callable Try.prog g = true) (hseq : HSeqP Try.prog g cap Xs It) (hX : ∀ xs, Xs xs → ∃ L : List (List UInt8), xs = L.map strA ∧ L.length ≤ 1000000) :
    HC Try.prog f_slices_Sorted_string_ [.fn (.func g) [] cap] It fun r m' => ∃ (L : List (List UInt8)) (ml X : HM), Xs (L.map strA) ∧ SlW 1 r (strsV (sortS L)) L.length ml ∧ m' = It + (ml + X) := by
  intro S mf hS
  have hA := Collect_walk hgc hseq hX
  refine slices_Sorted_string__ok.out rfl ?_ (by simp [slices_Sorted_string__fi])
  unfold vcFun slices_Sorted_string__fi
  dsimp only
  unfold slices_Sorted_string__c
  dsimp only [argF]
  with_reducible (refine c_seq ?_)
  refine c_ops ?_
  refine r_op (o_mov (s_no ?_))
  dsimp only [putF, rd, Frame.get]
  refine r_nil (c_keep ?_)
  dsimp only [List.map]
  dsimp only [putF, rd, Frame.get]
  with_reducible (refine on_n ?_; refine c_seq ?_)
  refine c_ops ?_
  refine r_op (o_mov (s_no ?_))
  dsimp only [putF, rd, Frame.get]
  refine r_op (o_call ?_)
  dsimp only [List.map, putF, rd, Frame.get]
  refine HC.use hA hS ?_; rintro x m' S ⟨L, ml, X, hxs, hx, rfl⟩ hS
  refine s_no ?_
  refine r_op (o_mov (s_no ?_))
  dsimp only [putF, rd, Frame.get]
  refine r_nil (c_keep ?_)
  dsimp only [List.map]
  dsimp only [putF, rd, Frame.get]
  with_reducible (refine on_n ?_; refine c_seq ?_)
  have hB := SortS_hc hx (by obtain ⟨L', e, h⟩ := hX _ hxs; have := congrArg List.length e; simp only [List.length_map] at this; omega)
  refine c_ops ?_
  refine r_op (o_mov (s_no ?_))
  dsimp only [putF, rd, Frame.get]
  refine r_op (o_call ?_)
  dsimp only [List.map, putF, rd, Frame.get]
  refine HC.use (a := ml) hB hS ?_; rintro r m' S ⟨rfl, hx'⟩ hS
  refine s_no ?_
  refine r_nil (c_keep ?_)
  dsimp only [List.map]
  dsimp only [putF, rd, Frame.get]
  with_reducible (refine on_n ?_; refine c_seq ?_)
  refine c_ops ?_
  refine r_op (o_mov (s_no ?_))
  dsimp only [putF, rd, Frame.get]
  refine r_op (o_mov (s_no ?_))
  dsimp only [putF, rd, Frame.get]
  refine r_nil (c_keep ?_)
  dsimp only [List.map]
  dsimp only [putF, rd, Frame.get]
  with_reducible (refine on_n ?_; refine c_ret ?_)
  try dsimp only
  unfold slices_Sorted_string__r
  refine w_tmp (w_nil ?_)
  dsimp only [retV, Frame.get]
  exact ⟨_, ⟨L, m', X, hxs, hx', rfl⟩, hS⟩
end Go.Proofs.Ytmpmlnjiolbplaa.W
