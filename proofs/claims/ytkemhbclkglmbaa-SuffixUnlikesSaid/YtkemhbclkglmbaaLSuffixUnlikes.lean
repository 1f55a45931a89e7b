/- The contracts of the functions that the law reaches, and that of the law. Conditions: none. -/
import Derived.Test.YtkemhbclkglmbaaWSuffixUnlikes
import Derived.Test.YtkemhbclkglmbaaLay
import Derived.Test.YtkemhbclkglmbaaEnds
set_option linter.unusedVariables false
set_option linter.unusedSimpArgs false
set_option maxRecDepth 100000
namespace Go.Proofs.Ytkemhbclkglmbaa
open Go.Vc Go.Fu

theorem suffix_fault_hC : Cons Try.prog [] := trivial
theorem suffix_fault_con : Con Try.prog f_suffix_fault suffix_fault_ct := suffix_fault_vc suffix_fault_hC fun s h => by
  unfold suffixFault
  exact ⟨fun c => by rw [if_pos (by omega)], fun c => by rw [if_neg (by omega)]⟩

theorem cmp_isNaN_int__hC : Cons Try.prog [] := trivial
theorem cmp_isNaN_int__con : Con Try.prog f_cmp_isNaN_int_ cmp_isNaN_int__ct := cmp_isNaN_int__vc cmp_isNaN_int__hC fun x _ => by
  rw [bo_false]; exact fun h => h rfl

theorem cmp_Compare_int__hC : Cons Try.prog [(f_cmp_isNaN_int_, cmp_isNaN_int__ct)] := ⟨cmp_isNaN_int__con, trivial⟩
theorem cmp_Compare_int__con : Con Try.prog f_cmp_Compare_int_ cmp_Compare_int__ct := cmp_Compare_int__vc cmp_Compare_int__hC fun x y _ => by
  refine ⟨trivial, trivial, fun h => absurd h (by decide), fun _ => ⟨fun h => absurd h (by decide), fun _ => ⟨fun h => ?_, fun h => ⟨fun h2 => ?_, fun h2 => ?_⟩⟩⟩⟩ <;> unfold cmpI
  · rw [if_pos h]
  · rw [if_neg h, if_pos h2]
  · rw [if_neg h, if_neg h2]

theorem cmp_Or_int__hC : Cons Try.prog [] := trivial
theorem cmp_Or_int__con : Con Try.prog f_cmp_Or_int_ cmp_Or_int__ct := cmp_Or_int__vc cmp_Or_int__hC fun l h => by
  refine ⟨fun x => 0 ≤ x ∧ x ≤ l.length ∧ orL (l.drop x.toNat) = orL l, fun x => (l.length - x).toNat, ⟨by omega, by omega, rfl⟩, ?_⟩
  rintro x ⟨x0, x1, x2⟩
  have hf : (l.length : Int) ≤ 140737488351232 := by unfold fitL at h; omega
  refine ⟨fun hx => ⟨x0, hx, fun c => ?_, fun c => ⟨by unfold inI64; omega, ⟨by omega, by omega, ?_⟩, by dsimp only; omega⟩⟩, fun hx => ?_⟩
  · rw [← x2, drop_gt x0 hx, orL, if_pos c]
  · rw [drop_gt x0 hx, orL, if_neg c] at x2
    exact x2
  · rw [← x2, List.drop_eq_nil_of_le (by omega)]; rfl

theorem suffix_sorted_2_hC : Cons Try.prog [(f_cmp_Compare_int_, cmp_Compare_int__ct), (f_cmp_Or_int_, cmp_Or_int__ct)] := ⟨cmp_Compare_int__con, cmp_Or_int__con, trivial⟩
theorem suffix_sorted_2_con : ConR Try.prog f_suffix_sorted_2 suffix_sorted_2_cr := suffix_sorted_2_vc suffix_sorted_2_hC fun rank w n rank2 a b h => by
  obtain ⟨h1, h2, h3, h4, h5, h6, h7, h8, h9⟩ := h
  simp only at h1 h2 h3 h4 h5 h6 h7 h8 h9
  subst h1
  have f2 : ∀ x y : Int, fitL [x, y] := fun x y => by simp [fitL]
  refine ⟨h6, by omega, h8, by omega, trivial, rfl, rfl, rfl, rfl, rfl, rfl, by unfold inI64; omega, fun c => ⟨by unfold inI64; omega, by omega, by omega, rfl, rfl, rfl, by unfold inI64; omega, fun d => ⟨by unfold inI64; omega, by omega, by omega, trivial, f2 _ _, ?_⟩, fun d => ⟨trivial, f2 _ _, ?_⟩⟩, fun c => ⟨rfl, rfl, rfl, by unfold inI64; omega, fun d => ⟨by unfold inI64; omega, by omega, by omega, trivial, f2 _ _, ?_⟩, fun d => ⟨trivial, f2 _ _, ?_⟩⟩⟩ <;> unfold byFn secN
  · rw [if_pos c, if_pos d]
  · rw [if_pos c, if_neg d]
  · rw [if_neg c, if_pos d]
  · rw [if_neg c, if_neg d]
theorem slices_SortFunc___int_int__con : FiOk Try.prog f_slices_SortFunc___int_int_ (sortFi suffix_by_cq) := sort_fok Try.sortInts rfl slices_SortFunc___int_int__ok.able suffix_sorted_2_con

theorem suffix_sorted_hC : Cons Try.prog [] := trivial
theorem suffix_sorted_con : Con Try.prog f_suffix_sorted suffix_sorted_ct := suffix_sorted_vc suffix_sorted_hC slices_SortFunc___int_int__con suffix_sorted_2_con fun text h => by
  refine ⟨rfl, by omega, by omega, rfl, by omega, by omega, fun x out rank => 0 ≤ x ∧ x ≤ text.length ∧ out.length = text.length ∧ rank.length = text.length ∧ (∀ j : Int, 0 ≤ j → j < x → gt out j = j) ∧ ∀ j : Int, 0 ≤ j → j < x → gt rank j = (gt text j).toNat, fun x _ _ => (text.length - x).toNat, ⟨rfl, by omega, by omega, by simp, by simp, fun j a b => by omega, fun j a b => by omega⟩, ?_⟩
  rintro x out rank ⟨x0, x1, lo, lr, ho, hr⟩
  refine ⟨fun hx => ⟨x0, hx, x0, by omega, x0, by omega, by unfold inI64; omega, rfl, ⟨by omega, by omega, by rw [List.length_set]; exact lo, by rw [List.length_set]; exact lr, fun j a b => ?_, fun j a b => ?_⟩, by dsimp only; omega⟩, fun hx => ?_⟩
  · by_cases e : j = x
    · subst e; exact gt_set_eq a (by omega)
    · rw [gt_set_ne x0 a (fun q => e q.symm)]; exact ho j a (by omega)
  · by_cases e : j = x
    · subst e; exact gt_set_eq a (by omega)
    · rw [gt_set_ne x0 a (fun q => e q.symm)]; exact hr j a (by omega)
  have e0 : out = upTo text.length := upTo_of lo fun i a b => ho i a (by omega)
  have r1 : Ranks text 1 rank := ranks_one lr fun i hi => hr i hi.1 (by have := hi.2; omega)
  refine ⟨fun out rank wide => out.Perm (upTo text.length) ∧ Ranks text wide rank ∧ 1 ≤ wide ∧ wide ≤ 1000, fun _ _ wide => (1000 - wide).toNat, ⟨rfl, by rw [e0], r1, by omega, by omega⟩, ?_⟩
  clear e0 r1 hx ho hr lo lr x0 x1 x
  rintro out rank wide ⟨hp, hR, w1, w2⟩
  have lo : out.length = text.length := by rw [hp.length_eq, upTo_len]
  have lr := hR.len
  have hby : ∀ a b, byFn (rank, wide, (text.length : Int), rank) a b = byI text wide rank a b := fun a b => orL_two _ _
  have hin : ∀ x ∈ out, inT text x := fun x hx => sa_in hp hx
  have hpre : ∀ x, inT text x → ∀ y, inT text y → byPre (rank, wide, (text.length : Int), rank) x y := fun x hx y hy =>
    ⟨rfl, by show (rank.length : Int) = text.length; omega, by show (text.length : Int) ≤ 1000; omega, w1, by show wide ≤ 1000000; omega, hx.1, hx.2, hy.1, hy.2⟩
  have hso : SortOk (byFn (rank, wide, (text.length : Int), rank)) out := ⟨fun x hx => by
      rw [hby, byI_neg hR w1 (hin x hx) (hin x hx)]; exact lex_irrefl _, fun x hx y hy z hz a b => by
      rw [hby, byI_neg hR w1 (hin x hx) (hin y hy)] at a
      rw [hby, byI_neg hR w1 (hin y hy) (hin z hz)] at b
      rw [hby, byI_neg hR w1 (hin x hx) (hin z hz)]; exact lex_trans a b, fun x hx y hy z hz a b => by
      rw [hby, byI_neg hR w1 (hin x hx) (hin y hy)] at a
      rw [hby, byI_neg hR w1 (hin y hy) (hin z hz)] at b
      rw [hby, byI_neg hR w1 (hin x hx) (hin z hz)]; exact lex_ntrans a b⟩
  obtain ⟨lp, lw⟩ := pdqL_laws hso
  refine ⟨⟨by omega, fun x hx y hy => hpre x (hin x hx) y (hin y hy), hso⟩, rfl, by omega, by omega, ?_⟩
  generalize pdqL (byFn (rank, wide, (text.length : Int), rank)) out = L at *
  have hLp : L.Perm (upTo text.length) := lp.trans hp
  have hLi : ∀ x ∈ L, inT text x := fun x hx => sa_in hLp hx
  have ord : L.Pairwise fun x y => ¬ lexLt (sufW text (wide * 2) y) (sufW text (wide * 2) x) := lw.imp_of_mem fun {a b} ha hb hab => by
    rwa [hby, byI_neg hR w1 (hLi b hb) (hLi a ha)] at hab
  have ll : L.length = text.length := by rw [hLp.length_eq, upTo_len]
  have nd : L.Nodup := hLp.nodup_iff.2 (upTo_nodup _)
  have inj : ∀ a b : Int, 0 ≤ a → a < L.length → 0 ≤ b → b < L.length → gt L a = gt L b → a = b := fun a b a0 a1 b0 b1 e => by
    rcases Int.lt_trichotomy a b with q | q | q
    · have := List.pairwise_iff_getElem.1 (List.nodup_iff_pairwise_ne.1 nd) a.toNat b.toNat (by omega) (by omega) (by omega)
      rw [← gt_in a0 a1, ← gt_in b0 b1] at this; exact absurd e this
    · exact q
    · have := List.pairwise_iff_getElem.1 (List.nodup_iff_pairwise_ne.1 nd) b.toNat a.toNat (by omega) (by omega) (by omega)
      rw [← gt_in a0 a1, ← gt_in b0 b1] at this; exact absurd e.symm this
  have at_ : ∀ a : Int, 0 ≤ a → a < L.length → inT text (gt L a) := fun a a0 a1 => hLi _ (gt_mem a0 a1)
  have hz : ∀ a b : Int, 0 ≤ a → a < L.length → 0 ≤ b → b < L.length → (byFn (rank, wide, (text.length : Int), rank) (gt L a) (gt L b) = 0 ↔ sufW text (wide * 2) (gt L a) = sufW text (wide * 2) (gt L b)) := fun a b a0 a1 b0 b1 => by
    rw [hby, byI_zero hR w1 (at_ a a0 a1) (at_ b b0 b1)]
  refine ⟨fun i next => 1 ≤ i ∧ next.length = text.length ∧ (0 < L.length → gt next (gt L 0) = 0) ∧ (∀ b : Int, 1 ≤ b → b < L.length → b < i → 0 ≤ gt next (gt L b) ∧ gt next (gt L b) ≤ b) ∧
      (∀ b : Int, 1 ≤ b → b < L.length → b < i → sufW text (wide * 2) (gt L (b - 1)) = sufW text (wide * 2) (gt L b) → gt next (gt L b) = gt next (gt L (b - 1))) ∧
      (∀ b : Int, 1 ≤ b → b < L.length → b < i → sufW text (wide * 2) (gt L (b - 1)) ≠ sufW text (wide * 2) (gt L b) → gt next (gt L b) = gt next (gt L (b - 1)) + 1),
    fun i _ => (text.length - i).toNat, ⟨rfl, rfl, rfl, rfl, by omega, by simp, fun q => ?_, fun b a c d => by omega, fun b a c d => by omega, fun b a c d => by omega⟩, ?_⟩
  · have := at_ 0 (by omega) (by omega)
    exact gt_rep this.1 (by have := this.2; omega)
  rintro i next ⟨i1, ln, n0, nb, ne1, ne2⟩
  refine ⟨fun hi => ?_, fun hi => ?_⟩
  · obtain ⟨p0, p1⟩ := at_ (i - 1) (by omega) (by omega)
    obtain ⟨q0, q1⟩ := at_ i (by omega) (by omega)
    have hne : gt L (i - 1) ≠ gt L i := fun e => by have := inj _ _ (by omega) (by omega) (by omega) (by omega) e; omega
    have gb : 0 ≤ gt next (gt L (i - 1)) ∧ gt next (gt L (i - 1)) ≤ i - 1 := by
      by_cases c : i = 1
      · subst c; rw [show (1 : Int) - 1 = 0 by omega, n0 (by omega)]; omega
      · exact nb (i - 1) (by omega) (by omega) (by omega)
    have hz := hz (i - 1) i (by omega) (by omega) (by omega) (by omega)
    have oth : ∀ (M : List Int) (y : Int), M.length = text.length → ∀ b : Int, 0 ≤ b → b < L.length → b ≠ i → gt (M.set (gt L i).toNat y) (gt L b) = gt M (gt L b) := fun M y hM b b0 b1 hb =>
      gt_set_ne q0 (at_ b b0 b1).1 fun e => hb (inj _ _ b0 b1 (by omega) (by omega) e.symm)
    have slf : ∀ (M : List Int) (y : Int), M.length = text.length → gt (M.set (gt L i).toNat y) (gt L i) = y := fun M y hM => gt_set_eq q0 (by omega)
    refine ⟨by omega, by omega, by unfold inI64; omega, by omega, by omega, p0, by omega, q0, by omega, by unfold inI64; omega, by omega, by omega, by omega, by omega, hpre _ ⟨p0, p1⟩ _ ⟨q0, q1⟩, fun c => ?_, fun c => ?_⟩
    · have c' := fun e => c (hz.2 e)
      rw [slf next _ ln]
      refine ⟨by omega, by omega, q0, by rw [List.length_set]; omega, by unfold inI64; omega, q0, by rw [List.length_set]; omega, by unfold inI64; omega, rfl, rfl, rfl, rfl, ⟨by omega, by simp only [List.length_set]; exact ln, fun q => ?_, fun b a d e => ?_, fun b a d e k => ?_, fun b a d e k => ?_⟩, by dsimp only; omega⟩
      · rw [oth _ _ (by rw [List.length_set]; exact ln) 0 (by omega) (by omega) (by omega), oth _ _ ln 0 (by omega) (by omega) (by omega)]; exact n0 q
      · by_cases hb : b = i
        · subst hb; rw [slf _ _ (by rw [List.length_set]; exact ln)]; omega
        · rw [oth _ _ (by rw [List.length_set]; exact ln) b (by omega) d hb, oth _ _ ln b (by omega) d hb]; exact nb b a d (by omega)
      · by_cases hb : b = i
        · subst hb; exact absurd k c'
        · rw [oth _ _ (by rw [List.length_set]; exact ln) b (by omega) d hb, oth _ _ ln b (by omega) d hb, oth _ _ (by rw [List.length_set]; exact ln) (b - 1) (by omega) (by omega) (by omega), oth _ _ ln (b - 1) (by omega) (by omega) (by omega)]
          exact ne1 b a d (by omega) k
      · by_cases hb : b = i
        · subst hb
          rw [slf _ _ (by rw [List.length_set]; exact ln), oth _ _ (by rw [List.length_set]; exact ln) (b - 1) (by omega) (by omega) (by omega), oth _ _ ln (b - 1) (by omega) (by omega) (by omega)]
        · rw [oth _ _ (by rw [List.length_set]; exact ln) b (by omega) d hb, oth _ _ ln b (by omega) d hb, oth _ _ (by rw [List.length_set]; exact ln) (b - 1) (by omega) (by omega) (by omega), oth _ _ ln (b - 1) (by omega) (by omega) (by omega)]
          exact ne2 b a d (by omega) k
    · have c' := hz.1 (Classical.not_not.1 c)
      refine ⟨by unfold inI64; omega, rfl, rfl, rfl, rfl, ⟨by omega, by rw [List.length_set]; exact ln, fun q => ?_, fun b a d e => ?_, fun b a d e k => ?_, fun b a d e k => ?_⟩, by dsimp only; omega⟩
      · rw [oth _ _ ln 0 (by omega) (by omega) (by omega)]; exact n0 q
      · by_cases hb : b = i
        · subst hb; rw [slf _ _ ln]; omega
        · rw [oth _ _ ln b (by omega) d hb]; exact nb b a d (by omega)
      · by_cases hb : b = i
        · subst hb
          rw [slf _ _ ln, oth _ _ ln (b - 1) (by omega) (by omega) (by omega)]
        · rw [oth _ _ ln b (by omega) d hb, oth _ _ ln (b - 1) (by omega) (by omega) (by omega)]
          exact ne1 b a d (by omega) k
      · by_cases hb : b = i
        · subst hb; exact absurd c' k
        · rw [oth _ _ ln b (by omega) d hb, oth _ _ ln (b - 1) (by omega) (by omega) (by omega)]
          exact ne2 b a d (by omega) k
  · have hRnd : Rnd text (wide * 2) L next := ⟨hLp, ord, ln, n0, fun b a c d => ne1 b a c (by omega) d, fun b a c d => ne2 b a c (by omega) d⟩
    have el : ((L.length : Nat) : Int) = text.length := by omega
    refine ⟨fun _ => by unfold inI64; omega, fun _ => by omega, fun _ => by omega, fun c => (at_ _ (by omega) (by omega)).1, fun c => by have := (at_ ((text.length : Int) - 1) (by omega) (by omega)).2; omega, fun _ => by unfold inI64; omega, fun c => ?_, fun c => ?_⟩
    · refine (sa_eq (hRnd.done ?_)).symm
      rw [el]
      exact c.imp (fun q => by omega) id
    · have hm := hRnd.more (by
        rw [el]
        exact fun q => c (q.imp (fun q => by omega) id))
      refine ⟨by unfold inI64; omega, rfl, ⟨hLp, hRnd.ranks (by omega), by omega, by omega⟩, by dsimp only; omega⟩

theorem suffix_common_hC : Cons Try.prog [] := trivial
theorem suffix_common_con : Con Try.prog f_suffix_common suffix_common_ct := suffix_common_vc suffix_common_hC fun s o h => by
  obtain ⟨h6, hsa⟩ := h
  have hlen := sa_len hsa
  refine ⟨rfl, by omega, by omega, rfl, by omega, by omega, fun x rank => 0 ≤ x ∧ x ≤ o.length ∧ rank.length = s.length ∧ ∀ j : Int, 0 ≤ j → j < x → gt rank (gt o j) = j, fun x rank => (o.length - x).toNat, ⟨rfl, by omega, by omega, by simp, fun j a b => by omega⟩, ?_⟩
  rintro x rank ⟨x0, x1, hr, hj⟩
  refine ⟨fun hx => ?_, fun hx => ?_⟩
  · obtain ⟨g0, g1⟩ := sa_gt hsa x0 hx
    refine ⟨x0, hx, g0, by omega, by unfold inI64; omega, rfl, ⟨by omega, by omega, by rw [List.length_set]; exact hr, fun j a b => ?_⟩, by dsimp only; omega⟩
    by_cases e : j = x
    · subst e; exact gt_set_eq g0 (by omega)
    · rw [gt_set_ne g0 (sa_gt hsa a (by omega)).1 (fun q => e (sa_gt_inj hsa a x0 (by omega) hx q.symm))]
      exact hj j a (by omega)
  have ex : x = o.length := by omega
  subst ex
  have hk : ∀ i, inT s i → 0 ≤ gt rank i ∧ gt rank i < o.length ∧ gt o (gt rank i) = i := fun i hi => by
    obtain ⟨r, r0, r1, e⟩ := mem_gt (sa_mem hsa hi)
    have := hj r r0 r1
    rw [e] at this
    rw [this]; exact ⟨r0, r1, e⟩
  refine ⟨fun long x out => 0 ≤ long ∧ 0 ≤ x ∧ x ≤ s.length ∧ out.length = s.length ∧ (∀ r : Int, 0 ≤ r → r < o.length → (r = 0 ∨ gt o r < x) → gt out r = comAt s o r) ∧ (∀ r : Int, 1 ≤ r → r < o.length → gt o r = x → long ≤ lcpI s x (gt o (r - 1))), fun _ x _ => (s.length - x).toNat, ⟨rfl, by omega, by omega, by omega, by simp, fun r r0 r1 c => ?_, fun r _ _ _ => lcpI_nn _ _⟩, ?_⟩
  · rcases c with rfl | c
    · rw [gt_rep (by omega) (by omega)]; simp [comAt]
    · have := (sa_gt hsa r0 r1).1; omega
  rintro long x out ⟨l0, x0, x1, ol, ho, hl⟩
  refine ⟨fun hx => ?_, fun hx => ?_⟩
  · obtain ⟨k0, k1, k2⟩ := hk x ⟨x0, hx⟩
    refine ⟨x0, by omega, fun c => ⟨by unfold inI64; omega, rfl, ⟨by omega, by omega, by omega, ol, fun r r0 r1 d => ho r r0 r1 ?_, fun r _ _ _ => lcpI_nn _ _⟩, by dsimp only; omega⟩, fun c => ⟨x0, by omega, by unfold inI64; omega, by omega, by omega, fun l => 0 ≤ l ∧ long ≤ l ∧ l ≤ lcpI s x (gt o (gt rank x - 1)), fun l => (s.length - l).toNat, ⟨rfl, rfl, l0, by omega, hl _ (by omega) k1 k2⟩, ?_⟩⟩
    · rcases d with d | d
      · exact .inl d
      · by_cases e : gt o r = x
        · have := sa_gt_inj hsa r0 k0 r1 k1 (by rw [e, k2]); exact .inl (by omega)
        · exact .inr (by omega)
    obtain ⟨q0, q1⟩ := sa_gt hsa (show 0 ≤ gt rank x - 1 by omega) (by omega)
    have el : comAt s o (gt rank x) = lcpI s x (gt o (gt rank x - 1)) := by rw [comAt, if_neg c, k2]
    have kas := fun r r0 r1 er hc => kasai (s := s) (o := o) hsa (i := x) (a := gt rank x - 1) (b := gt rank x) ⟨x0, hx⟩ (by omega) (by omega) k1 k2 (r := r) r0 r1 er hc
    generalize gt o (gt rank x - 1) = K at *
    generalize gt rank x = R at *
    rintro l ⟨l0', l1, l2⟩
    have e1 := suf_len (s := s) (i := x) ⟨x0, hx⟩
    have e2 := suf_len (s := s) (i := K) ⟨q0, q1⟩
    have b1 := lcp_le_l (suf s x) (suf s K)
    have b2 := lcp_le_r (suf s x) (suf s K)
    have l3 : l.toNat ≤ lcp (suf s x) (suf s K) := by unfold lcpI at l2; omega
    have ht := lcp_take_le l3
    have n1 : ((l.toNat : Nat) : Int) = l := by omega
    have gx : gt (suf s x) l = gt s (x + l) := by rw [gt_drop l0']; congr 1; omega
    have gk : gt (suf s K) l = gt s (K + l) := by rw [gt_drop l0']; congr 1; omega
    refine ⟨by unfold inI64; omega, fun _ => by unfold inI64; omega, fun _ => by unfold inI64; omega, fun _ => by omega, fun c => c.1, fun _ => by unfold inI64; omega, fun _ => by omega, fun c => c.2, fun c => ⟨by unfold inI64; omega, rfl, rfl, ⟨by omega, by omega, ?_⟩, by dsimp only; omega⟩, fun d => ?_⟩
    · obtain ⟨⟨c1, c2⟩, c3⟩ := c
      have := lcp_ge (n := l.toNat + 1) (by omega) (by omega) (lcp_go ht (by omega) (by omega) (by rw [n1, gx, gk]; exact c3))
      unfold lcpI; omega
    · have hst := lcp_stop ht (by omega) (by omega) (by
        rw [n1, gx, gk]
        by_cases c1 : x + l < s.length
        · by_cases c2 : K + l < s.length
          · exact .inr (.inr fun e => d ⟨⟨c1, c2⟩, e⟩)
          · exact .inr (.inl (by omega))
        · exact .inl (by omega))
      have hL : lcpI s x K = l := by unfold lcpI; omega
      refine ⟨x0, by omega, by omega, by omega, by unfold inI64; omega, by unfold inI64; omega, rfl, ⟨by omega, by omega, by omega, by rw [List.length_set]; exact ol, fun r r0 r1 w => ?_, fun r r0 r1 er => ?_⟩, by dsimp only; omega⟩
      · by_cases e : r = R
        · subst e
          rw [gt_set_eq r0 (by omega), el, hL]
        · rw [gt_set_ne k0 r0 (fun q => e q.symm)]
          refine ho r r0 r1 ?_
          rcases w with w | w
          · exact .inl w
          · have : gt o r ≠ x := fun q => e (sa_gt_inj hsa r0 k0 r1 k1 (by rw [q, k2]))
            exact .inr (by omega)
      · rcases Int.lt_or_le 1 l with w | w
        · have := (kas r (by omega) r1 er (by omega)).2
          rw [hL] at this
          omega
        · have := lcpI_nn (s := s) (x + 1) (gt o (r - 1))
          omega
  · refine ext_gt (by rw [comOf_len, ol, hlen]) fun r r0 r1 => ?_
    rw [comOf_gt r0 (by omega)]
    exact ho r r0 (by omega) (.inr (by have := (sa_gt hsa r0 (by omega)).2; omega))

theorem suffix_Unlike_hC : Cons Try.prog [(f_suffix_fault, suffix_fault_ct), (f_suffix_sorted, suffix_sorted_ct), (f_suffix_common, suffix_common_ct)] := ⟨suffix_fault_con, suffix_sorted_con, suffix_common_con, trivial⟩
theorem suffix_Unlike_con : Con Try.prog f_suffix_Unlike suffix_Unlike_ct := suffix_Unlike_vc suffix_Unlike_hC fun s h => by
  refine ⟨h, ?_⟩
  unfold suffixFault suffixUnlike
  by_cases c : 600 < s.length
  · rw [if_pos c, if_pos c]
    exact ⟨fun _ => ⟨rfl, rfl⟩, fun q => absurd (by decide) q⟩
  rw [if_neg c, if_neg c]
  refine ⟨fun q => absurd rfl q, fun _ => ?_⟩
  have hs := sa_spec s
  have ll := sa_len hs
  have lc : (comOf s (saOf s)).length = (saOf s).length := comOf_len
  obtain ⟨b0, b1⟩ := sq_bd (n := (s.length : Int)) (by omega) (by omega)
  rw [Int.tdiv_eq_ediv_of_nonneg b0]
  refine ⟨by unfold inI64; omega, by unfold inI64; omega, by decide, by unfold inI64; omega, by omega, ⟨by omega, hs⟩, fun n x => 0 ≤ x ∧ x ≤ (comOf s (saOf s)).length ∧ n = (s.length : Int) * (s.length + 1) / 2 - sumL ((comOf s (saOf s)).take x.toNat) ∧ 0 ≤ sumL ((comOf s (saOf s)).take x.toNat) ∧ sumL ((comOf s (saOf s)).take x.toNat) ≤ 600 * x, fun _ x => ((comOf s (saOf s)).length - x).toNat, ⟨rfl, rfl, by omega, by omega, by simp [sumL], by simp [sumL], by simp [sumL]⟩, ?_⟩
  rintro n x ⟨x0, x1, rfl, z0, z1⟩
  refine ⟨fun hx => ?_, fun hx => ⟨by rw [List.take_of_length_le (by omega)], rfl⟩⟩
  have e := sumL_take_succ x0 hx
  have bd := comAt_bd (s := s) (o := saOf s) x
  have g : gt (comOf s (saOf s)) x = comAt s (saOf s) x := comOf_gt x0 (by omega)
  rw [g] at e ⊢
  refine ⟨x0, hx, by unfold inI64; omega, by unfold inI64; omega, rfl, rfl, ⟨by omega, by omega, by omega, by omega, by omega⟩, by dsimp only; omega⟩
theorem sort_Slice_con : FiOk Try.prog f_sort_Slice ref_ends_sort_sf := ends_fok

theorem ref_ends_hC : Cons Try.prog [] := trivial
theorem ref_ends_con : Con Try.prog f_ref_ends ref_ends_ct := ref_ends_vc ref_ends_hC sort_Slice_con fun s h => by
  refine ⟨fun x out => 0 ≤ x ∧ x ≤ s.length ∧ out = upTo x.toNat, fun x _ => (s.length - x).toNat, ⟨rfl, by omega, by omega, rfl⟩, ?_⟩
  rintro x out ⟨x0, x1, rfl⟩
  refine ⟨fun hx => ⟨by rw [upTo_len]; omega, by unfold inI64; omega, rfl, ⟨by omega, by omega, ?_⟩, by dsimp only; omega⟩, fun hx => ⟨⟨?_, h⟩, rfl⟩⟩
  · rw [show (x + 1).toNat = x.toNat + 1 by omega, upTo_succ, show ((x.toNat : Nat) : Int) = x by omega]
  · rw [show x.toNat = s.length by omega]

theorem ref_beginAlike_hC : Cons Try.prog [] := trivial
theorem ref_beginAlike_con : Con Try.prog f_ref_beginAlike ref_beginAlike_ct := ref_beginAlike_vc ref_beginAlike_hC fun a b h => by
  obtain ⟨ha, hb⟩ := h
  have ha : (a.length : Int) ≤ 140737488351232 := by unfold fitS at ha; omega
  refine ⟨fun n => 0 ≤ n ∧ n ≤ lcp a b, fun n => (a.length - n).toNat, ⟨by omega, by omega⟩, ?_⟩
  rintro n ⟨n0, n1⟩
  have l1 := lcp_le_l a b
  have l2 := lcp_le_r a b
  have ht := lcp_take_le (n := n.toNat) (s := a) (t := b) (by omega)
  refine ⟨fun _ => n0, fun c => c.1, fun _ => n0, fun c => c.2, fun c => ⟨by unfold inI64; omega, ⟨by omega, ?_⟩, by dsimp only; omega⟩, fun c => ?_⟩
  · obtain ⟨⟨c1, c2⟩, c3⟩ := c
    have := lcp_ge (n := n.toNat + 1) (by omega) (by omega) (lcp_go ht (by omega) (by omega) (by rw [show ((n.toNat : Nat) : Int) = n by omega]; exact c3))
    omega
  · have := lcp_stop ht (by omega) (by omega) (by
      rw [show ((n.toNat : Nat) : Int) = n by omega]
      by_cases c1 : n < a.length
      · by_cases c2 : n < b.length
        · exact .inr (.inr fun e => c ⟨⟨c1, c2⟩, e⟩)
        · exact .inr (.inl (by omega))
      · exact .inl (by omega))
    omega

theorem ref_SuffixCommon_hC : Cons Try.prog [(f_ref_ends, ref_ends_ct), (f_ref_beginAlike, ref_beginAlike_ct)] := ⟨ref_ends_con, ref_beginAlike_con, trivial⟩
theorem ref_SuffixCommon_con : Con Try.prog f_ref_SuffixCommon ref_SuffixCommon_ct := ref_SuffixCommon_vc ref_SuffixCommon_hC fun s h => by
  unfold suffixCommon
  refine ⟨fun c => ?_, fun c => ?_⟩
  · rw [if_pos (by omega)]; exact ⟨rfl, rfl⟩
  rw [if_neg (by omega)]
  have hs := sa_spec s
  have ll := sa_len hs
  have lc : (comOf s (saOf s)).length = (saOf s).length := comOf_len
  refine ⟨by omega, fun x out => 0 ≤ x ∧ x ≤ (saOf s).length ∧ out = (comOf s (saOf s)).take x.toNat, fun x _ => ((saOf s).length - x).toNat, ⟨rfl, by omega, by omega, by simp⟩, ?_⟩
  rintro x out ⟨x0, x1, rfl⟩
  refine ⟨fun hx => ?_, fun hx => ⟨List.take_of_length_le (by omega), rfl⟩⟩
  obtain ⟨g0, g1⟩ := sa_gt hs x0 hx
  have fd : ∀ n, fitS (s.drop n) := fun n => by have := drop_len_le s n; unfold fitS; omega
  rw [take_all]
  refine ⟨x0, hx, fun _ => g0, fun _ => by omega, fun _ => Int.le_refl _, fun _ => by unfold inI64; omega, fun _ => by omega, fun _ => by omega, fun q => (sa_gt hs (by omega) (by omega)).1, fun q => by have := (sa_gt hs (k := x - 1) (by omega) (by omega)).2; omega, fun _ => Int.le_refl _, fun _ => ⟨fd _, fd _⟩, by simp only [List.length_take]; omega, by unfold inI64; omega, rfl, ⟨by omega, by omega, ?_⟩, by dsimp only; omega⟩
  rw [take_gt x0 (by omega), comOf_gt x0 hx]
  congr 2
  unfold comAt
  by_cases c0 : x = 0
  · rw [if_pos c0, iteP_neg (by omega)]
  · rw [if_neg c0, iteP_pos (by omega)]; rfl

theorem ref_SuffixUnlike_hC : Cons Try.prog [(f_ref_ends, ref_ends_ct), (f_ref_SuffixCommon, ref_SuffixCommon_ct)] := ⟨ref_ends_con, ref_SuffixCommon_con, trivial⟩
theorem ref_SuffixUnlike_con : Con Try.prog f_ref_SuffixUnlike ref_SuffixUnlike_ct := ref_SuffixUnlike_vc ref_SuffixUnlike_hC fun s h => by
  refine ⟨h, ?_⟩
  unfold suffixCommon suffixUnlike
  by_cases c : 600 < s.length
  · rw [if_pos c, if_pos c]
    exact ⟨fun _ => ⟨rfl, rfl⟩, fun q => absurd (by decide) q⟩
  rw [if_neg c, if_neg c]
  refine ⟨fun q => absurd rfl q, fun _ => ?_⟩
  have hs := sa_spec s
  have ll := sa_len hs
  have lc : (comOf s (saOf s)).length = (saOf s).length := comOf_len
  refine ⟨by omega, fun n x => 0 ≤ x ∧ x ≤ (saOf s).length ∧ n + sumL ((saOf s).take x.toNat) + sumL ((comOf s (saOf s)).take x.toNat) = (s.length : Int) * x ∧ -(1200 * x) ≤ n ∧ n ≤ 600 * x, fun _ x => ((saOf s).length - x).toNat, ⟨rfl, rfl, by omega, by omega, by simp [sumL], by omega, by omega⟩, ?_⟩
  rintro n x ⟨x0, x1, e, z0, z1⟩
  refine ⟨fun hx => ?_, fun hx => ⟨?_, rfl⟩⟩
  · have e1 := sumL_take_succ (l := saOf s) x0 hx
    have e2 := sumL_take_succ (l := comOf s (saOf s)) x0 (by omega)
    have bd := comAt_bd (s := s) (o := saOf s) x
    obtain ⟨g0, g1⟩ := sa_gt hs x0 hx
    have g : gt (comOf s (saOf s)) x = comAt s (saOf s) x := comOf_gt x0 (by omega)
    rw [g] at e2
    have g' : gt ((comOf s (saOf s), (0 : Int)).1) x = comAt s (saOf s) x := g
    rw [g']
    have em : (s.length : Int) * (x + 1) = s.length * x + s.length := by rw [Int.mul_add, Int.mul_one]
    refine ⟨x0, hx, by unfold inI64; omega, x0, by show x < ((comOf s (saOf s)).length : Int); omega, by unfold inI64; omega, by unfold inI64; omega, by unfold inI64; omega, rfl, rfl, ⟨by omega, by omega, by omega, by omega, by omega⟩, by dsimp only; omega⟩
  · rw [List.take_of_length_le (by omega), List.take_of_length_le (by omega)] at e
    have ex : x = s.length := by omega
    subst ex
    have e2 := sumL_upTo s.length
    rw [← sumL_perm hs.1] at e2
    rw [Int.mul_sub, Int.mul_one] at e2
    show n = (s.length : Int) * (s.length + 1) / 2 - sumL (comOf s (saOf s))
    rw [Int.mul_add, Int.mul_one]
    omega

theorem law_SuffixUnlikes_hC : Cons Try.prog [(f_suffix_Unlike, suffix_Unlike_ct), (f_ref_SuffixUnlike, ref_SuffixUnlike_ct)] := ⟨suffix_Unlike_con, ref_SuffixUnlike_con, trivial⟩
theorem law_SuffixUnlikes_con : Con Try.prog f_law_SuffixUnlikes law_SuffixUnlikes_ct := law_SuffixUnlikes_vc law_SuffixUnlikes_hC fun s h => ⟨h, h, by simp⟩

end Go.Proofs.Ytkemhbclkglmbaa
