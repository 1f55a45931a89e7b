/- The contracts of the functions that the law reaches, and that of the law. Conditions: none. -/
import Derived.Test.YtoiebdgnfjgcpaaWSuffixFinds
import Derived.Test.YtoiebdgnfjgcpaaLay
import Derived.Test.YtoiebdgnfjgcpaaS2
set_option linter.unusedVariables false
set_option linter.unusedSimpArgs false
set_option maxRecDepth 100000
namespace Go.Proofs.Ytoiebdgnfjgcpaa
open Go.Vc Go.Fu

theorem cmp_isNaN_int__hC : Cons Try.prog [] := trivial
theorem cmp_isNaN_int__con : Con Try.prog f_cmp_isNaN_int_ cmp_isNaN_int__ct := cmp_isNaN_int__vc cmp_isNaN_int__hC fun x _ => by
  rw [bo_false]; exact fun h => h rfl

theorem cmp_Compare_int__hC : Cons Try.prog [(f_cmp_isNaN_int_, cmp_isNaN_int__ct)] := ⟨cmp_isNaN_int__con, trivial⟩
theorem cmp_Compare_int__con : Con Try.prog f_cmp_Compare_int_ cmp_Compare_int__ct := cmp_Compare_int__vc cmp_Compare_int__hC fun x y _ => by
  refine ⟨trivial, trivial, fun h => absurd h (by decide), fun _ => ⟨fun h => absurd h (by decide), fun _ => ⟨fun h => ?_, fun h => ⟨fun h2 => ?_, fun h2 => ?_⟩⟩⟩⟩ <;> unfold cmpI
  · rw [if_pos h]
  · rw [if_neg h, if_pos h2]
  · rw [if_neg h, if_neg h2]

theorem cmp_Or_int__hC : Cons Try.prog [] := trivial
theorem cmp_Or_int__con : Con Try.prog f_cmp_Or_int_ cmp_Or_int__ct := cmp_Or_int__vc cmp_Or_int__hC fun l h => by
  refine ⟨fun x => 0 ≤ x ∧ x ≤ l.length ∧ orL (l.drop x.toNat) = orL l, fun x => (l.length - x).toNat, ⟨by omega, by omega, rfl⟩, ?_⟩
  rintro x ⟨x0, x1, x2⟩
  have hf : (l.length : Int) ≤ 140737488351232 := by unfold fitL at h; omega
  refine ⟨fun hx => ⟨x0, hx, fun c => ?_, fun c => ⟨by unfold inI64; omega, ⟨by omega, by omega, ?_⟩, by dsimp only; omega⟩⟩, fun hx => ?_⟩
  · rw [← x2, drop_gt x0 hx, orL, if_pos c]
  · rw [drop_gt x0 hx, orL, if_neg c] at x2
    exact x2
  · rw [← x2, List.drop_eq_nil_of_le (by omega)]; rfl

theorem suffix_sorted_2_hC : Cons Try.prog [(f_cmp_Compare_int_, cmp_Compare_int__ct), (f_cmp_Or_int_, cmp_Or_int__ct)] := ⟨cmp_Compare_int__con, cmp_Or_int__con, trivial⟩
theorem suffix_sorted_2_con : ConR Try.prog f_suffix_sorted_2 suffix_sorted_2_cr := suffix_sorted_2_vc suffix_sorted_2_hC fun rank w n rank2 a b h => by
  obtain ⟨h1, h2, h3, h4, h5, h6, h7, h8, h9⟩ := h
  simp only at h1 h2 h3 h4 h5 h6 h7 h8 h9
  subst h1
  have f2 : ∀ x y : Int, fitL [x, y] := fun x y => by simp [fitL]
  refine ⟨h6, by omega, h8, by omega, trivial, rfl, rfl, rfl, rfl, rfl, rfl, by unfold inI64; omega, fun c => ⟨by unfold inI64; omega, by omega, by omega, rfl, rfl, rfl, by unfold inI64; omega, fun d => ⟨by unfold inI64; omega, by omega, by omega, trivial, f2 _ _, ?_⟩, fun d => ⟨trivial, f2 _ _, ?_⟩⟩, fun c => ⟨rfl, rfl, rfl, by unfold inI64; omega, fun d => ⟨by unfold inI64; omega, by omega, by omega, trivial, f2 _ _, ?_⟩, fun d => ⟨trivial, f2 _ _, ?_⟩⟩⟩ <;> unfold byFn secN
  · rw [if_pos c, if_pos d]
  · rw [if_pos c, if_neg d]
  · rw [if_neg c, if_pos d]
  · rw [if_neg c, if_neg d]
theorem slices_SortFunc___int_int__con : FiOk Try.prog f_slices_SortFunc___int_int_ (sortFi suffix_by_cq) := sort_fok trivial Try.sortInts rfl (slices_SortFunc___int_int__ok.able rfl) suffix_sorted_2_con

theorem suffix_sorted_hC : Cons Try.prog [] := trivial
theorem suffix_sorted_con : Con Try.prog f_suffix_sorted suffix_sorted_ct := suffix_sorted_vc suffix_sorted_hC slices_SortFunc___int_int__con suffix_sorted_2_con fun text h => by
  refine ⟨rfl, by omega, by omega, rfl, by omega, by omega, fun x out rank => 0 ≤ x ∧ x ≤ text.length ∧ out.length = text.length ∧ rank.length = text.length ∧ (∀ j : Int, 0 ≤ j → j < x → gt out j = j) ∧ ∀ j : Int, 0 ≤ j → j < x → gt rank j = (gt text j).toNat, fun x _ _ => (text.length - x).toNat, ⟨rfl, by omega, by omega, by simp, by simp, fun j a b => by omega, fun j a b => by omega⟩, ?_⟩
  rintro x out rank ⟨x0, x1, lo, lr, ho, hr⟩
  refine ⟨fun hx => ⟨x0, hx, x0, by omega, x0, by omega, by unfold inI64; omega, rfl, ⟨by omega, by omega, by rw [List.length_set]; exact lo, by rw [List.length_set]; exact lr, fun j a b => ?_, fun j a b => ?_⟩, by dsimp only; omega⟩, fun hx => ?_⟩
  · by_cases e : j = x
    · subst e; exact gt_set_eq a (by omega)
    · rw [gt_set_ne x0 a (fun q => e q.symm)]; exact ho j a (by omega)
  · by_cases e : j = x
    · subst e; exact gt_set_eq a (by omega)
    · rw [gt_set_ne x0 a (fun q => e q.symm)]; exact hr j a (by omega)
  have e0 : out = upTo text.length := upTo_of lo fun i a b => ho i a (by omega)
  have r1 : Ranks text 1 rank := ranks_one lr fun i hi => hr i hi.1 (by have := hi.2; omega)
  refine ⟨fun out rank wide => out.Perm (upTo text.length) ∧ Ranks text wide rank ∧ 1 ≤ wide ∧ wide ≤ 1000, fun _ _ wide => (1000 - wide).toNat, ⟨rfl, by rw [e0], r1, by omega, by omega⟩, ?_⟩
  clear e0 r1 hx ho hr lo lr x0 x1 x
  rintro out rank wide ⟨hp, hR, w1, w2⟩
  have lo : out.length = text.length := by rw [hp.length_eq, upTo_len]
  have lr := hR.len
  have hby : ∀ a b, byFn (rank, wide, (text.length : Int), rank) a b = byI text wide rank a b := fun a b => orL_two _ _
  have hin : ∀ x ∈ out, inT text x := fun x hx => sa_in hp hx
  have hpre : ∀ x, inT text x → ∀ y, inT text y → byPre (rank, wide, (text.length : Int), rank) x y := fun x hx y hy =>
    ⟨rfl, by show (rank.length : Int) = text.length; omega, by show (text.length : Int) ≤ 1000; omega, w1, by show wide ≤ 1000000; omega, hx.1, hx.2, hy.1, hy.2⟩
  have hso : SortOk (byFn (rank, wide, (text.length : Int), rank)) out := ⟨fun x hx => by
      rw [hby, byI_neg hR w1 (hin x hx) (hin x hx)]; exact lex_irrefl _, fun x hx y hy z hz a b => by
      rw [hby, byI_neg hR w1 (hin x hx) (hin y hy)] at a
      rw [hby, byI_neg hR w1 (hin y hy) (hin z hz)] at b
      rw [hby, byI_neg hR w1 (hin x hx) (hin z hz)]; exact lex_trans a b, fun x hx y hy z hz a b => by
      rw [hby, byI_neg hR w1 (hin x hx) (hin y hy)] at a
      rw [hby, byI_neg hR w1 (hin y hy) (hin z hz)] at b
      rw [hby, byI_neg hR w1 (hin x hx) (hin z hz)]; exact lex_ntrans a b⟩
  obtain ⟨lp, lw⟩ := pdqL_laws hso
  refine ⟨⟨by omega, fun x hx y hy => hpre x (hin x hx) y (hin y hy), hso⟩, rfl, by omega, by omega, ?_⟩
  generalize pdqL (byFn (rank, wide, (text.length : Int), rank)) out = L at *
  have hLp : L.Perm (upTo text.length) := lp.trans hp
  have hLi : ∀ x ∈ L, inT text x := fun x hx => sa_in hLp hx
  have ord : L.Pairwise fun x y => ¬ lexLt (sufW text (wide * 2) y) (sufW text (wide * 2) x) := lw.imp_of_mem fun {a b} ha hb hab => by
    rwa [hby, byI_neg hR w1 (hLi b hb) (hLi a ha)] at hab
  have ll : L.length = text.length := by rw [hLp.length_eq, upTo_len]
  have nd : L.Nodup := hLp.nodup_iff.2 (upTo_nodup _)
  have inj : ∀ a b : Int, 0 ≤ a → a < L.length → 0 ≤ b → b < L.length → gt L a = gt L b → a = b := fun a b a0 a1 b0 b1 e => by
    rcases Int.lt_trichotomy a b with q | q | q
    · have := List.pairwise_iff_getElem.1 (List.nodup_iff_pairwise_ne.1 nd) a.toNat b.toNat (by omega) (by omega) (by omega)
      rw [← gt_in a0 a1, ← gt_in b0 b1] at this; exact absurd e this
    · exact q
    · have := List.pairwise_iff_getElem.1 (List.nodup_iff_pairwise_ne.1 nd) b.toNat a.toNat (by omega) (by omega) (by omega)
      rw [← gt_in a0 a1, ← gt_in b0 b1] at this; exact absurd e.symm this
  have at_ : ∀ a : Int, 0 ≤ a → a < L.length → inT text (gt L a) := fun a a0 a1 => hLi _ (gt_mem a0 a1)
  have hz : ∀ a b : Int, 0 ≤ a → a < L.length → 0 ≤ b → b < L.length → (byFn (rank, wide, (text.length : Int), rank) (gt L a) (gt L b) = 0 ↔ sufW text (wide * 2) (gt L a) = sufW text (wide * 2) (gt L b)) := fun a b a0 a1 b0 b1 => by
    rw [hby, byI_zero hR w1 (at_ a a0 a1) (at_ b b0 b1)]
  refine ⟨fun i next => 1 ≤ i ∧ next.length = text.length ∧ (0 < L.length → gt next (gt L 0) = 0) ∧ (∀ b : Int, 1 ≤ b → b < L.length → b < i → 0 ≤ gt next (gt L b) ∧ gt next (gt L b) ≤ b) ∧
      (∀ b : Int, 1 ≤ b → b < L.length → b < i → sufW text (wide * 2) (gt L (b - 1)) = sufW text (wide * 2) (gt L b) → gt next (gt L b) = gt next (gt L (b - 1))) ∧
      (∀ b : Int, 1 ≤ b → b < L.length → b < i → sufW text (wide * 2) (gt L (b - 1)) ≠ sufW text (wide * 2) (gt L b) → gt next (gt L b) = gt next (gt L (b - 1)) + 1),
    fun i _ => (text.length - i).toNat, ⟨rfl, rfl, rfl, rfl, by omega, by simp, fun q => ?_, fun b a c d => by omega, fun b a c d => by omega, fun b a c d => by omega⟩, ?_⟩
  · have := at_ 0 (by omega) (by omega)
    exact gt_rep this.1 (by have := this.2; omega)
  rintro i next ⟨i1, ln, n0, nb, ne1, ne2⟩
  refine ⟨fun hi => ?_, fun hi => ?_⟩
  · obtain ⟨p0, p1⟩ := at_ (i - 1) (by omega) (by omega)
    obtain ⟨q0, q1⟩ := at_ i (by omega) (by omega)
    have hne : gt L (i - 1) ≠ gt L i := fun e => by have := inj _ _ (by omega) (by omega) (by omega) (by omega) e; omega
    have gb : 0 ≤ gt next (gt L (i - 1)) ∧ gt next (gt L (i - 1)) ≤ i - 1 := by
      by_cases c : i = 1
      · subst c; rw [show (1 : Int) - 1 = 0 by omega, n0 (by omega)]; omega
      · exact nb (i - 1) (by omega) (by omega) (by omega)
    have hz := hz (i - 1) i (by omega) (by omega) (by omega) (by omega)
    have oth : ∀ (M : List Int) (y : Int), M.length = text.length → ∀ b : Int, 0 ≤ b → b < L.length → b ≠ i → gt (M.set (gt L i).toNat y) (gt L b) = gt M (gt L b) := fun M y hM b b0 b1 hb =>
      gt_set_ne q0 (at_ b b0 b1).1 fun e => hb (inj _ _ b0 b1 (by omega) (by omega) e.symm)
    have slf : ∀ (M : List Int) (y : Int), M.length = text.length → gt (M.set (gt L i).toNat y) (gt L i) = y := fun M y hM => gt_set_eq q0 (by omega)
    refine ⟨by omega, by omega, by unfold inI64; omega, by omega, by omega, p0, by omega, q0, by omega, by unfold inI64; omega, by omega, by omega, by omega, by omega, hpre _ ⟨p0, p1⟩ _ ⟨q0, q1⟩, fun c => ?_, fun c => ?_⟩
    · have c' := fun e => c (hz.2 e)
      rw [slf next _ ln]
      refine ⟨by omega, by omega, q0, by rw [List.length_set]; omega, by unfold inI64; omega, q0, by rw [List.length_set]; omega, by unfold inI64; omega, rfl, rfl, rfl, rfl, ⟨by omega, by simp only [List.length_set]; exact ln, fun q => ?_, fun b a d e => ?_, fun b a d e k => ?_, fun b a d e k => ?_⟩, by dsimp only; omega⟩
      · rw [oth _ _ (by rw [List.length_set]; exact ln) 0 (by omega) (by omega) (by omega), oth _ _ ln 0 (by omega) (by omega) (by omega)]; exact n0 q
      · by_cases hb : b = i
        · subst hb; rw [slf _ _ (by rw [List.length_set]; exact ln)]; omega
        · rw [oth _ _ (by rw [List.length_set]; exact ln) b (by omega) d hb, oth _ _ ln b (by omega) d hb]; exact nb b a d (by omega)
      · by_cases hb : b = i
        · subst hb; exact absurd k c'
        · rw [oth _ _ (by rw [List.length_set]; exact ln) b (by omega) d hb, oth _ _ ln b (by omega) d hb, oth _ _ (by rw [List.length_set]; exact ln) (b - 1) (by omega) (by omega) (by omega), oth _ _ ln (b - 1) (by omega) (by omega) (by omega)]
          exact ne1 b a d (by omega) k
      · by_cases hb : b = i
        · subst hb
          rw [slf _ _ (by rw [List.length_set]; exact ln), oth _ _ (by rw [List.length_set]; exact ln) (b - 1) (by omega) (by omega) (by omega), oth _ _ ln (b - 1) (by omega) (by omega) (by omega)]
        · rw [oth _ _ (by rw [List.length_set]; exact ln) b (by omega) d hb, oth _ _ ln b (by omega) d hb, oth _ _ (by rw [List.length_set]; exact ln) (b - 1) (by omega) (by omega) (by omega), oth _ _ ln (b - 1) (by omega) (by omega) (by omega)]
          exact ne2 b a d (by omega) k
    · have c' := hz.1 (Classical.not_not.1 c)
      refine ⟨by unfold inI64; omega, rfl, rfl, rfl, rfl, ⟨by omega, by rw [List.length_set]; exact ln, fun q => ?_, fun b a d e => ?_, fun b a d e k => ?_, fun b a d e k => ?_⟩, by dsimp only; omega⟩
      · rw [oth _ _ ln 0 (by omega) (by omega) (by omega)]; exact n0 q
      · by_cases hb : b = i
        · subst hb; rw [slf _ _ ln]; omega
        · rw [oth _ _ ln b (by omega) d hb]; exact nb b a d (by omega)
      · by_cases hb : b = i
        · subst hb
          rw [slf _ _ ln, oth _ _ ln (b - 1) (by omega) (by omega) (by omega)]
        · rw [oth _ _ ln b (by omega) d hb, oth _ _ ln (b - 1) (by omega) (by omega) (by omega)]
          exact ne1 b a d (by omega) k
      · by_cases hb : b = i
        · subst hb; exact absurd c' k
        · rw [oth _ _ ln b (by omega) d hb, oth _ _ ln (b - 1) (by omega) (by omega) (by omega)]
          exact ne2 b a d (by omega) k
  · have hRnd : Rnd text (wide * 2) L next := ⟨hLp, ord, ln, n0, fun b a c d => ne1 b a c (by omega) d, fun b a c d => ne2 b a c (by omega) d⟩
    have el : ((L.length : Nat) : Int) = text.length := by omega
    refine ⟨fun _ => by unfold inI64; omega, fun _ => by omega, fun _ => by omega, fun c => (at_ _ (by omega) (by omega)).1, fun c => by have := (at_ ((text.length : Int) - 1) (by omega) (by omega)).2; omega, fun _ => by unfold inI64; omega, fun c => ?_, fun c => ?_⟩
    · refine (sa_eq (hRnd.done ?_)).symm
      rw [el]
      exact c.imp (fun q => by omega) id
    · have hm := hRnd.more (by
        rw [el]
        exact fun q => c (q.imp (fun q => by omega) id))
      refine ⟨by unfold inI64; omega, rfl, ⟨hLp, hRnd.ranks (by omega), by omega, by omega⟩, by dsimp only; omega⟩
theorem suffix_Find_con : Con Try.prog f_suffix_Find suffix_Find_ct := S.suffix_Find_con' suffix_sorted_con

theorem ref_findFault_hC : Cons Try.prog [] := trivial
theorem ref_findFault_con : Con Try.prog f_ref_findFault ref_findFault_ct := ref_findFault_vc ref_findFault_hC fun t f _ => by
  simp only [findFault]
  refine ⟨fun q => by rw [if_pos (by omega)], fun q => ?_⟩
  rw [if_neg (by omega)]
  exact ⟨fun r => by rw [if_pos r], fun r => by rw [if_neg r]⟩

theorem ref_standsAt_hC : Cons Try.prog [] := trivial
theorem ref_standsAt_con : Con Try.prog f_ref_standsAt ref_standsAt_ct := ref_standsAt_vc ref_standsAt_hC fun t f at_ ⟨h1, h2, h3⟩ => by
  simp only [inI_iff, true_and, and_true, ne_eq, Int.reduceEq, not_false_eq_true, Int.toNat_zero, bo_eq_bo, fitS, standPre] at *
  refine ⟨fun _ => by omega, fun _ => by omega, fun q => q.1, fun _ => by omega, fun q => q.2, ?_⟩
  constructor
  · rintro ⟨⟨a, b⟩, c⟩; exact (stands_part a b).1 c
  · intro c; exact ⟨⟨c.1, c.2.1⟩, (stands_part c.1 c.2.1).2 c⟩

theorem ref_FindAll_hC : Cons Try.prog [(f_ref_findFault, ref_findFault_ct), (f_ref_standsAt, ref_standsAt_ct)] := ⟨ref_findFault_con, ref_standsAt_con, trivial⟩
theorem ref_FindAll_con : Con Try.prog f_ref_FindAll ref_FindAll_ct := ref_FindAll_vc ref_FindAll_hC fun t f _ => by
  simp only [inI_iff, true_and, and_true, ne_eq, Int.reduceEq, not_false_eq_true, Int.toNat_zero, findAll, bo_true]
  refine ⟨fun q => by rw [if_neg q]; exact ⟨rfl, rfl⟩, fun q => ?_⟩
  have q : findFault t f = 0 := Classical.byContradiction q
  rw [if_pos q]
  obtain ⟨a, b, c⟩ := findFault_ok.1 q
  refine ⟨fun x out => 0 ≤ x ∧ x ≤ t.length ∧ out = pls (stands t f) x, fun x _ => (t.length - x).toNat, ⟨by omega, by omega, by rw [pls_zero (by omega)]⟩, ?_⟩
  rintro x out ⟨h0, h1, h2⟩
  dsimp only
  have hol : out.length ≤ 1000 := by
    have := pls_len (P := stands t f) x; rw [h2]; omega
  refine ⟨fun u => ⟨⟨by simp only [fitS]; omega, by simp only [fitS]; omega, by simp only [standPre]; omega⟩, fun v => ⟨by omega, by omega, ⟨by omega, by omega, by rw [h2, pls_pos h0 v]⟩, by omega⟩, fun v => ⟨by omega, ⟨by omega, by omega, by rw [h2, pls_neg h0 v]⟩, by omega⟩⟩, fun u => ?_⟩
  have e : x = t.length := by omega
  rw [h2, e]; exact ⟨rfl, rfl⟩

theorem law_sameInts_hC : Cons Try.prog [] := trivial
theorem law_sameInts_con : Con Try.prog f_law_sameInts law_sameInts_ct := law_sameInts_vc law_sameInts_hC fun a b h => by
  simp only [inI_iff, true_and, and_true, ne_eq, Int.reduceEq, not_false_eq_true, Int.toNat_zero, false_bo, true_bo, fitL] at *
  refine ⟨fun q e => q (by rw [e]), fun q => ⟨fun i => 0 ≤ i ∧ i ≤ a.length ∧ ∀ j : Int, 0 ≤ j → j < i → gt a j = gt b j, fun i => (a.length - i).toNat, ⟨by omega, by omega, fun j h1 h2 => by omega⟩, fun i ⟨h0, h1, h2⟩ => ?_⟩⟩
  dsimp only
  refine ⟨fun r => ⟨h0, r, h0, by omega, fun t e => t (by rw [e]), fun t => ⟨by omega, ⟨by omega, by omega, fun j j0 j1 => ?_⟩, by omega⟩⟩, fun r => ?_⟩
  · by_cases e : j = i
    · rw [e]; exact Classical.byContradiction t
    · exact h2 j j0 (by omega)
  · exact ext_gt (by omega) fun j j0 j1 => h2 j j0 (by omega)

theorem law_SuffixFinds_hC : Cons Try.prog [(f_suffix_Find, suffix_Find_ct), (f_ref_FindAll, ref_FindAll_ct), (f_law_sameInts, law_sameInts_ct)] := ⟨suffix_Find_con, ref_FindAll_con, law_sameInts_con, trivial⟩
theorem law_SuffixFinds_con : Con Try.prog f_law_SuffixFinds law_SuffixFinds_ct := law_SuffixFinds_vc law_SuffixFinds_hC fun t f h => by
  have : fitL (findAll t f).1 := by
    unfold findAll fitL
    split
    · rename_i q
      have := pls_len (P := stands t f) t.length
      have := (findFault_ok.1 q).1
      simp only [findAt]; omega
    · simp
  exact ⟨trivial, trivial, ⟨this, this⟩, by simp⟩

end Go.Proofs.Ytoiebdgnfjgcpaa
