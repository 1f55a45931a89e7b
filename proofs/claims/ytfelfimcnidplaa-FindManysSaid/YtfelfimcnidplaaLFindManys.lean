/- The contracts of the functions that the law reaches, and that of the law. Conditions: none. -/
import Derived.Test.YtfelfimcnidplaaWFindManys
import Derived.Test.YtfelfimcnidplaaF4
set_option linter.unusedVariables false
set_option linter.unusedSimpArgs false
set_option maxRecDepth 100000
namespace Go.Proofs.Ytfelfimcnidplaa
open Go.Vc Go.Fu

theorem find_fault_hC : Cons Try.prog [] := trivial
theorem find_fault_con : Con Try.prog f_find_fault find_fault_ct := find_fault_vc find_fault_hC fun t f _ => by
  simp only [findFault]
  refine ⟨fun q => by rw [if_pos (by omega)], fun q => ?_⟩
  rw [if_neg (by omega)]
  exact ⟨fun r => by rw [if_pos r], fun r => by rw [if_neg r]⟩

theorem slices_Index___string_string__hC : Cons Try.prog [] := trivial
theorem slices_Index___string_string__con : Con Try.prog f_slices_Index___string_string_ slices_Index___string_string__ct := slices_Index___string_string__vc slices_Index___string_string__hC fun s v h => by
  have hl : s.length ≤ 140737488351232 := h.1
  refine ⟨fun x => 0 ≤ x ∧ x ≤ s.length ∧ ∀ j : Int, 0 ≤ j → j < x → gt s j ≠ v, fun x => (s.length - x).toNat, ⟨by omega, by omega, fun j j0 j1 => by omega⟩, fun x ⟨x0, x1, x2⟩ => ?_⟩
  dsimp only
  refine ⟨fun r => ⟨x0, r, fun e => ?_, fun e => ⟨by unfold inI64; omega, ⟨by omega, by omega, fun j j0 j1 => ?_⟩, by omega⟩⟩, fun r => ?_⟩
  · unfold indexS
    rw [if_pos (by rw [e]; exact gt_mem x0 r)]
    unfold idxI
    have hlt : x.toNat < s.length := by omega
    have hg : gt s x = s[x.toNat] := by
      have := gt_get? (l := s) (i := x) x0 r
      rw [List.getElem?_eq_getElem hlt] at this
      exact (Option.some.inj this).symm
    have : s.idxOf v = x.toNat := by
      rw [List.idxOf, List.findIdx_eq hlt]
      refine ⟨by simp [← hg, e], fun j hj => ?_⟩
      have h3 := x2 (j : Int) (by omega) (by omega)
      have h4 := gt_get? (l := s) (i := (j : Int)) (by omega) (by omega)
      rw [Int.toNat_natCast, List.getElem?_eq_getElem (show j < s.length by omega)] at h4
      rw [← Option.some.inj h4] at h3
      simpa using h3
    omega
  · by_cases c : j = x
    · subst c; exact fun q => e q.symm
    · exact x2 j j0 (by omega)
  · unfold indexS
    rw [if_neg (fun q => ?_)]
    obtain ⟨j, j0, j1, e⟩ := mem_gt q
    exact x2 j j0 (by omega) e

theorem slices_Contains___string_string__hC : Cons Try.prog [(f_slices_Index___string_string_, slices_Index___string_string__ct)] := ⟨slices_Index___string_string__con, trivial⟩
theorem slices_Contains___string_string__con : Con Try.prog f_slices_Contains___string_string_ slices_Contains___string_string__ct := slices_Contains___string_string__vc slices_Contains___string_string__hC fun s v h => by
  refine ⟨h, ?_⟩
  unfold indexS inS idxI
  rw [Bool.eq_iff_iff, bo_true, bo_true]
  split
  · rename_i q; exact ⟨fun _ => q, fun _ => by omega⟩
  · rename_i q; exact ⟨fun e => absurd e (by decide), fun e => absurd e q⟩

theorem cmp_isNaN_int__hC : Cons Try.prog [] := trivial
theorem cmp_isNaN_int__con : Con Try.prog f_cmp_isNaN_int_ cmp_isNaN_int__ct := cmp_isNaN_int__vc cmp_isNaN_int__hC fun x _ => by
  rw [bo_false]; exact fun h => h rfl

theorem cmp_Compare_int__hC : Cons Try.prog [(f_cmp_isNaN_int_, cmp_isNaN_int__ct)] := ⟨cmp_isNaN_int__con, trivial⟩
theorem cmp_Compare_int__con : Con Try.prog f_cmp_Compare_int_ cmp_Compare_int__ct := cmp_Compare_int__vc cmp_Compare_int__hC fun x y _ => by
  refine ⟨trivial, trivial, fun h => absurd h (by decide), fun _ => ⟨fun h => absurd h (by decide), fun _ => ⟨fun h => ?_, fun h => ⟨fun h2 => ?_, fun h2 => ?_⟩⟩⟩⟩ <;> unfold cmpI
  · rw [if_pos h]
  · rw [if_neg h, if_pos h2]
  · rw [if_neg h, if_neg h2]

theorem find_Many_1_hC : Cons Try.prog [(f_cmp_Compare_int_, cmp_Compare_int__ct)] := ⟨cmp_Compare_int__con, trivial⟩
theorem find_Many_1_con : Con Try.prog f_find_Many_1 find_Many_1_ct := find_Many_1_vc find_Many_1_hC fun a b h => by
  first | exact ⟨trivial, rfl⟩ | trivial | simp
theorem find_Many_con : Con Try.prog f_find_Many find_Many_ct := F.find_Many_con' find_fault_con slices_Contains___string_string__con find_Many_1_con

theorem ref_findFault_hC : Cons Try.prog [] := trivial
theorem ref_findFault_con : Con Try.prog f_ref_findFault ref_findFault_ct := ref_findFault_vc ref_findFault_hC fun t f _ => by
  simp only [findFault]
  refine ⟨fun q => by rw [if_pos (by omega)], fun q => ?_⟩
  rw [if_neg (by omega)]
  exact ⟨fun r => by rw [if_pos r], fun r => by rw [if_neg r]⟩

theorem ref_standsAt_hC : Cons Try.prog [] := trivial
theorem ref_standsAt_con : Con Try.prog f_ref_standsAt ref_standsAt_ct := ref_standsAt_vc ref_standsAt_hC fun t f at_ ⟨h1, h2, h3⟩ => by
  simp only [inI_iff, true_and, and_true, ne_eq, Int.reduceEq, not_false_eq_true, Int.toNat_zero, bo_eq_bo, fitS, standPre] at *
  refine ⟨fun _ => by omega, fun _ => by omega, fun q => q.1, fun _ => by omega, fun q => q.2, ?_⟩
  constructor
  · rintro ⟨⟨a, b⟩, c⟩; exact (stands_part a b).1 c
  · intro c; exact ⟨⟨c.1, c.2.1⟩, (stands_part c.1 c.2.1).2 c⟩

theorem ref_FindMany_hC : Cons Try.prog [(f_ref_findFault, ref_findFault_ct), (f_ref_standsAt, ref_standsAt_ct)] := ⟨ref_findFault_con, ref_standsAt_con, trivial⟩
theorem ref_FindMany_con : Con Try.prog f_ref_FindMany ref_FindMany_ct := ref_FindMany_vc ref_FindMany_hC fun text fs h => by
  obtain ⟨h1, h2, h3⟩ := h
  have h1' : text.length ≤ 140737488351232 := h1
  refine ⟨fun c => ?_, fun c => ?_⟩
  · have : findMany text fs = ([], 1) := by unfold findMany; rw [if_pos (by omega)]
    rw [this]; exact ⟨rfl, rfl⟩
  have c' : ¬ (600 < text.length ∨ 20 < fs.length) := by omega
  refine ⟨fun x => 0 ≤ x ∧ x ≤ fs.length ∧ fmFault text (fs.take x.toNat) (fs.drop x.toNat) = fmFault text [] fs, fun x => (fs.length - x).toNat, ⟨by omega, by omega, rfl⟩, fun x ⟨x0, x1, x2⟩ => ?_⟩
  dsimp only
  refine ⟨fun r => ?_, fun r => ?_⟩
  · have hlt : x.toNat < fs.length := by omega
    have hg : gt fs x = fs[x.toNat] := by
      have := gt_get? (l := fs) (i := x) x0 r
      rw [List.getElem?_eq_getElem hlt] at this
      exact (Option.some.inj this).symm
    have hst := fm_step text fs hlt
    rw [x2, ← hg] at hst
    have hdt : List.drop (Int.toNat 0) (fs.take x.toNat) = fs.take x.toNat := rfl
    have htl : (fs.take x.toNat).length = x.toNat := by rw [List.length_take]; omega
    refine ⟨x0, r, trivial, fun q => ?_, fun q => ⟨by omega, x0, by omega, ?_⟩⟩
    · rw [if_pos q] at hst
      have : findMany text fs = ([], findFault text (gt fs x)) := by unfold findMany; rw [if_neg c', hst, if_pos q]
      rw [this]; exact ⟨rfl, rfl⟩
    · rw [if_neg q] at hst
      rw [hdt]
      refine ⟨fun y => 0 ≤ y ∧ y ≤ x ∧ ∀ j : Int, 0 ≤ j → j < y → gt (fs.take x.toNat) j ≠ gt fs x, fun y => (x - y).toNat, ⟨by omega, by omega, fun j j0 j1 => by omega⟩, fun y ⟨y0, y1, y2⟩ => ?_⟩
      dsimp only
      refine ⟨fun ry => ⟨y0, ry, fun e => ?_, fun e => ⟨by unfold inI64; omega, ⟨by omega, by omega, fun j j0 j1 => ?_⟩, by omega⟩⟩, fun ry => ⟨by unfold inI64; omega, ⟨by omega, by omega, ?_⟩, by omega⟩⟩
      · rw [if_pos (by rw [e]; exact gt_mem y0 ry)] at hst
        have : findMany text fs = ([], 4) := by unfold findMany; rw [if_neg c', hst, if_pos (by decide)]
        rw [this]; exact ⟨rfl, rfl⟩
      · by_cases c : j = y
        · subst c; exact fun q => e q.symm
        · exact y2 j j0 (by omega)
      · rw [if_neg (fun q => ?_)] at hst
        · rw [show (x + 1).toNat = x.toNat + 1 by omega]; exact hst.symm
        · obtain ⟨j, j0, j1, e⟩ := mem_gt q
          exact y2 j j0 (by omega) e
  have hf0 : fmFault text [] fs = 0 := by
    rw [← x2, show x.toNat = fs.length by omega, List.drop_length]; rfl
  obtain ⟨hn, hfs⟩ := fm_all hf0
  have hd : findMany text fs = (manyUp text fs text.length, 0) := by unfold findMany; rw [if_neg c', if_neg (by rw [hf0]; decide)]
  rw [hd]
  refine ⟨fun e out => 1 ≤ e ∧ e ≤ text.length + 1 ∧ out = manyUp text fs (e - 1).toNat, fun e _ => (text.length + 1 - e).toNat, ⟨by omega, by omega, by simp [manyUp]⟩, fun e out ⟨e0, e1, e2⟩ => ?_⟩
  dsimp only
  refine ⟨fun re => ?_, fun re => ⟨by rw [e2, show (e - 1).toNat = text.length by omega], rfl⟩⟩
  obtain ⟨T, hT⟩ : ∃ T, T = text.take e.toNat := ⟨_, rfl⟩
  have hTl : (T.length : Int) = e := by rw [hT, List.length_take]; omega
  have hall : out ++ chain fs e (T.drop (T.length - 20)) = manyUp text fs e.toNat := by
    rw [← chain_long (fun f hf => (hfs f hf).1), show e.toNat = (e - 1).toNat + 1 by omega, manyUp_succ, e2]
    unfold manyAt
    rw [show (((e - 1).toNat + 1 : Nat) : Int) = e by omega, show (e - 1).toNat + 1 = e.toNat by omega, hT]
  have hml := manyUp_len text fs e.toNat (by omega)
  refine ⟨fun long o => 0 ≤ long ∧ long ≤ 20 ∧ o ++ chain fs e (T.drop (T.length - long.toNat)) = manyUp text fs e.toNat, fun long _ => long.toNat, ⟨by omega, by omega, hall⟩, fun long o ⟨g0, g1, g2⟩ => ?_⟩
  dsimp only
  have hol : o.length ≤ 360000 := by
    have := congrArg List.length g2
    rw [List.length_append] at this; omega
  refine ⟨fun rl => ?_, fun rl => ⟨by unfold inI64; omega, ⟨by omega, by omega, ?_⟩, by omega⟩⟩
  rotate_left
  · rw [show (e + 1 - 1).toNat = e.toNat by omega, ← g2, show long.toNat = 0 by omega, Nat.sub_zero, List.drop_length]
    simp [chain]
  -- one length
  have key : ∀ j : Int, 0 ≤ j → j < fs.length → ((gt fs j).length = long ∧ stands text (gt fs j) (e - long) ↔ long ≤ e ∧ gt fs j = T.drop (T.length - long.toNat)) := fun j j0 j1 => by
    have hp : ∀ (hl : long ≤ e), T.drop (T.length - long.toNat) = (text.drop (e - long).toNat).take long.toNat := fun hl => by
      rw [hT, List.drop_take]
      congr 1
      · rw [List.length_take]; omega
      · congr 1; rw [List.length_take]; omega
    constructor
    · rintro ⟨a, b⟩
      have hl : long ≤ e := by have := b.1; omega
      refine ⟨hl, ?_⟩
      rw [hp hl]
      have := (stands_part b.1 (by have := b.2.1; omega)).2 b
      rw [← this, show (e - long + ((gt fs j).length : Int)).toNat = e.toNat by omega, List.drop_take]
      congr 1; omega
    · rintro ⟨hl, q⟩
      have hlen : ((gt fs j).length : Int) = long := by rw [q, List.length_drop]; omega
      refine ⟨hlen, (stands_part (by omega) (by omega)).1 ?_⟩
      rw [q, hp hl, List.drop_take]
      have : (((text.drop (e - long).toNat).take long.toNat).length : Int) = long := by rw [← hp hl, ← q]; exact hlen
      rw [this, show (e - long + long).toNat = e.toNat by omega]
      congr 1; omega
  have hch : long ≤ e → ∃ u, u = T.drop (T.length - long.toNat) ∧ chain fs e u = (open Classical in if u ∈ fs then [(e - long, idxI fs u)] else []) ++ chain fs e (T.drop (T.length - (long - 1).toNat)) := fun hl => by
    refine ⟨_, rfl, ?_⟩
    have hlt : T.length - long.toNat < T.length := by omega
    rw [List.drop_eq_getElem_cons hlt]
    conv => lhs; unfold chain
    have e1 : ((T[T.length - long.toNat] :: T.drop (T.length - long.toNat + 1)).length : Int) = long := by rw [List.length_cons, List.length_drop]; omega
    rw [e1, show T.length - long.toNat + 1 = T.length - (long - 1).toNat by omega]
  have hno : ¬ long ≤ e → T.drop (T.length - (long - 1).toNat) = T.drop (T.length - long.toNat) := fun hl => by congr 1; omega
  obtain ⟨u, hu⟩ : ∃ u, u = T.drop (T.length - long.toNat) := ⟨_, rfl⟩
  refine ⟨fun x o2 => 0 ≤ x ∧ x ≤ fs.length ∧ o2 = o ++ (open Classical in if long ≤ e ∧ u ∈ fs.take x.toNat then [(e - long, idxI fs u)] else []), fun x _ => (fs.length - x).toNat, ⟨by omega, by omega, by simp⟩, fun x o2 ⟨y0, y1, y2⟩ => ?_⟩
  dsimp only
  have hbt : ∀ j : Int, (bo (stands text (gt fs j) (e - long)) = true) ↔ stands text (gt fs j) (e - long) := fun j => bo_true
  simp only [hbt]
  refine ⟨fun rx => ⟨y0, rx, fun q => by unfold inI64; omega, fun q => ⟨h1, h3 _ (gt_mem y0 rx), ?_⟩, fun q => ⟨by unfold inI64; omega, ?_, by unfold inI64; omega, ⟨by omega, by omega, ?_⟩, by omega⟩, fun q => ⟨by unfold inI64; omega, ⟨by omega, by omega, ?_⟩, by omega⟩⟩, fun rx => ⟨by unfold inI64; omega, ⟨by omega, by omega, ?_⟩, by omega⟩⟩
  · first | (unfold standPre inI64; omega) | (unfold standPre; omega)
  · rw [y2, List.length_append]
    split <;> simp <;> omega
  · obtain ⟨hl, q2⟩ := (key x y0 rx).1 q
    rw [← hu] at q2
    have hlt : x.toNat < fs.length := by omega
    have hg : gt fs x = fs[x.toNat] := by
      have := gt_get? (l := fs) (i := x) y0 rx
      rw [List.getElem?_eq_getElem hlt] at this
      exact (Option.some.inj this).symm
    have hnot : u ∉ fs.take x.toNat := fun hm => by
      rw [← q2, hg] at hm
      obtain ⟨j, hj, ej⟩ := List.getElem_of_mem hm
      rw [List.getElem_take] at ej
      rw [List.length_take] at hj
      have hjl : j < fs.length := by omega
      have : j = x.toNat := (List.getElem?_inj hjl hn).1 (by rw [List.getElem?_eq_getElem hjl, List.getElem?_eq_getElem hlt]; exact congrArg some ej)
      omega
    have hx : idxI fs u = x := by rw [← q2, hg, idx_of hn hlt]; omega
    rw [y2, if_neg (fun q => hnot q.2), List.append_nil, if_pos ⟨hl, by rw [show (x + 1).toNat = x.toNat + 1 by omega, List.take_add_one, List.getElem?_eq_getElem hlt, ← hg, q2]; simp⟩, hx]
  · rw [y2]
    congr 1
    have : (long ≤ e ∧ u ∈ fs.take x.toNat) ↔ (long ≤ e ∧ u ∈ fs.take (x + 1).toNat) := by
      rw [show (x + 1).toNat = x.toNat + 1 by omega, List.take_add_one, List.getElem?_eq_getElem (show x.toNat < fs.length by omega), List.mem_append]
      constructor
      · rintro ⟨a, b⟩; exact ⟨a, .inl b⟩
      · rintro ⟨a, b | b⟩
        · exact ⟨a, b⟩
        · simp only [Option.toList_some, List.mem_singleton] at b
          refine absurd ((key x y0 rx).2 ⟨a, ?_⟩) q
          have := gt_get? (l := fs) (i := x) y0 rx
          rw [List.getElem?_eq_getElem (show x.toNat < fs.length by omega)] at this
          rw [← Option.some.inj this, ← b, hu]
    simp only [this]
  · rw [y2, show x.toNat = fs.length by omega, List.take_length, ← g2, ← hu, List.append_assoc]
    congr 1
    by_cases hl : long ≤ e
    · obtain ⟨u', hu', hc⟩ := hch hl
      rw [← hu] at hu'; subst hu'
      rw [hc]
      congr 1
      by_cases z : u' ∈ fs
      · rw [if_pos ⟨hl, z⟩, if_pos z]
      · rw [if_neg (fun q => z q.2), if_neg z]
    · rw [if_neg (fun q => hl q.1), hno hl, ← hu]; rfl

theorem law_FindManys_hC : Cons Try.prog [(f_find_Many, find_Many_ct), (f_ref_FindMany, ref_FindMany_ct)] := ⟨find_Many_con, ref_FindMany_con, trivial⟩
theorem law_FindManys_con : Con Try.prog f_law_FindManys law_FindManys_ct := law_FindManys_vc law_FindManys_hC fun text fs h => by
  have hp : fmPre text fs := ⟨h.1, h.2.1, h.2.2⟩
  have hl : (findMany text fs).1.length ≤ 360000 := by
    unfold findMany
    split
    · exact Nat.zero_le _
    split
    · exact Nat.zero_le _
    · rename_i h1 h2
      have := manyUp_len text fs text.length (by omega)
      show (manyUp text fs text.length).length ≤ _; omega
  refine ⟨hp, hp, fun q => by omega, fun _ => ⟨fun i => 0 ≤ i ∧ i ≤ (findMany text fs).1.length, fun i => ((findMany text fs).1.length - i).toNat, ⟨rfl, rfl, by omega, by omega⟩, fun i ⟨i0, i1⟩ => ?_⟩⟩
  dsimp only
  exact ⟨fun r => ⟨i0, r, i0, r, fun q => absurd ⟨rfl, rfl⟩ q, fun _ => ⟨by unfold inI64; omega, rfl, rfl, ⟨by omega, by omega⟩, by omega⟩⟩, fun _ => rfl⟩

end Go.Proofs.Ytfelfimcnidplaa
