/-
  A text found among the ends of a text, that are in order.
-/
import Derived.Test.YtoiebdgnfjgcpaaVpYC
import Derived.Test.YtoiebdgnfjgcpaaVpG
set_option linter.unusedVariables false
set_option linter.unusedSimpArgs false
namespace Go.Fu
open Go.Vc
/-- Does an end begin with it? -/
theorem pre_stands {s f : Bytes} {i : Int} (h : inT s i) : f <+: suf s i ↔ stands s f i := by
  have h0 : 0 ≤ i := h.1
  have h1 : i < s.length := h.2
  rw [List.prefix_iff_eq_take]
  constructor
  · intro e
    have hl : f.length ≤ s.length - i.toNat := by
      have := congrArg List.length e
      rw [List.length_take, List.length_drop] at this; omega
    refine (stands_part h0 (by omega)).1 ?_
    conv => rhs; rw [e]
    rw [List.drop_take]
    congr 1; omega
  · intro q
    have := (stands_part h0 q.2.1).2 q
    conv => lhs; rw [← this]
    rw [List.drop_take]
    congr 1; have := q.2.1; omega
theorem lex_pre : ∀ {f t : Bts}, f <+: t → ¬ lexLt t f
  | [], t, _ => lex_nil
  | a :: f, [], h => by simp at h
  | a :: f, b :: t, h => by
    rw [List.cons_prefix_cons] at h
    obtain ⟨rfl, h⟩ := h
    have := lex_pre h
    simp only [lexLt]
    rintro (q | q)
    · exact u8_irrefl _ q
    · exact this q.2
/-- What stands between two that begin with it, or between it and one that does, does so too. -/
theorem lex_mid : ∀ {f t u : Bts}, ¬ lexLt t f → lexLt t u → f <+: u → f <+: t
  | [], t, u, _, _, _ => List.nil_prefix
  | a :: f, t, [], _, _, h => by simp at h
  | a :: f, [], b :: u, h1, _, _ => absurd (by simp [lexLt]) h1
  | a :: f, c :: t, b :: u, h1, h2, h3 => by
    rw [List.cons_prefix_cons] at h3 ⊢
    obtain ⟨rfl, h3⟩ := h3
    simp only [lexLt] at h1 h2
    have hc : c.toNat = a.toNat := by
      have q1 : ¬ c.toNat < a.toNat := fun q => h1 (.inl (UInt8.lt_iff_toNat_lt.2 q))
      rcases h2 with q | q
      · have := UInt8.lt_iff_toNat_lt.1 q; omega
      · exact congrArg UInt8.toNat q.1
    have hc : c = a := UInt8.toNat_inj.1 hc
    subst hc
    refine ⟨rfl, lex_mid (fun q => h1 (.inr ⟨rfl, q⟩)) ?_ h3⟩
    rcases h2 with q | q
    · exact absurd q (u8_irrefl _)
    · exact q.2
theorem lessLex : ∀ {a b : Bytes}, Op.bytesLess a b = true ↔ lexLt a b
  | [], [] => by simp [Op.bytesLess, lexLt]
  | [], _ :: _ => by simp [Op.bytesLess, lexLt]
  | _ :: _, [] => by simp [Op.bytesLess, lexLt]
  | x :: a, y :: b => by
    have ih := @lessLex a b
    simp only [Op.bytesLess, lexLt, Bool.or_eq_true, decide_eq_true_eq, Bool.and_eq_true, beq_iff_eq, ih, UInt8.lt_iff_toNat_lt]
theorem less_not {a b : Bytes} : Op.bytesLess a b = false ↔ ¬ lexLt a b := by rw [← lessLex]; simp
section
variable {s f : Bytes}
/-- So many from a place on begin with it. -/
theorem sa_block {lo hi : Int} (h0 : 0 ≤ lo) (h1 : lo ≤ hi) (h2 : hi ≤ (saOf s).length) (hl : ∀ k : Int, 0 ≤ k → k < lo → lexLt (suf s (gt (saOf s) k)) f) (hm : ∀ k : Int, lo ≤ k → k < hi → f <+: suf s (gt (saOf s) k))
    (he : lo < (saOf s).length → ¬ lexLt (suf s (gt (saOf s) lo)) f) (hh : hi < (saOf s).length → ¬ f <+: suf s (gt (saOf s) hi))   : ∀ k : Int, 0 ≤ k → k < (saOf s).length → (f <+: suf s (gt (saOf s) k) ↔ lo ≤ k ∧ k < hi) := by
  intro k k0 k1
  have sp := sa_spec s
  constructor
  · intro hp
    have a : lo ≤ k := Classical.byContradiction fun q => lex_pre hp (hl k k0 (by omega))
    refine ⟨a, Classical.byContradiction fun q => ?_⟩
    have hh := hh (by omega)
    by_cases e : k = hi
    · rw [e] at hp; exact hh hp
    · refine hh (lex_mid ?_ (sa_lt sp (by omega) (show hi < k by omega) k1) hp)
      by_cases e : hi = lo
      · rw [e]; exact he (by omega)
      · intro q
        exact he (by omega) (lex_trans (sa_lt sp h0 (show lo < hi by omega) (by omega)) q)
  · rintro ⟨a, b⟩; exact hm k a b
end
theorem sort_filter {s f : Bytes} {lo hi : Int} (h0 : 0 ≤ lo) (h1 : lo ≤ hi) (h2 : hi ≤ (saOf s).length) (hb : ∀ k : Int, 0 ≤ k → k < (saOf s).length → (f <+: suf s (gt (saOf s) k) ↔ lo ≤ k ∧ k < hi)) :
    (((saOf s).take hi.toNat).drop lo.toNat).mergeSort (fun x y => decide (x ≤ y)) = findAt s f := by
  have sp := sa_spec s
  have nd : (saOf s).Nodup := sp.1.nodup_iff.2 (upTo_nodup _)
  have hs : ((((saOf s).take hi.toNat).drop lo.toNat).mergeSort (fun x y => decide (x ≤ y))).Pairwise fun x y : Int => x ≤ y := by
    refine (List.pairwise_mergeSort (le := fun x y : Int => decide (x ≤ y)) (fun a b c p q => by simp at *; omega) (fun a b => by simp; omega) _).imp ?_
    intro a b h; simpa using h
  have hp := List.mergeSort_perm (((saOf s).take hi.toNat).drop lo.toNat) (fun x y : Int => decide (x ≤ y))
  have hf : (findAt s f).Pairwise fun x y : Int => x ≤ y := by
    unfold findAt pls
    refine List.Pairwise.filter _ ?_
    rw [List.pairwise_map]
    exact List.pairwise_lt_range.imp fun h => by omega
  have nf : (findAt s f).Nodup := by
    unfold findAt pls
    exact (upTo_nodup _).sublist List.filter_sublist
  refine List.Perm.eq_of_pairwise (le := fun x y : Int => x ≤ y) (fun a b _ _ p q => by omega) hs hf (hp.trans ?_)
  refine (List.perm_ext_iff_of_nodup ?_ nf).2 fun i => ?_
  · exact (nd.sublist (List.take_sublist _ _)).sublist (List.drop_sublist _ _)
  have hmem : i ∈ findAt s f ↔ inT s i ∧ stands s f i := by
    unfold findAt pls
    rw [List.mem_filter]
    have : i ∈ (List.range ((s.length : Int)).toNat).map (fun k : Nat => (k : Int)) ↔ inT s i := upTo_mem
    rw [this, bo_true]
  rw [hmem]
  constructor
  · intro hi'
    obtain ⟨n, hn, e⟩ := List.getElem_of_mem hi'
    rw [List.length_drop, List.length_take] at hn
    rw [List.getElem_drop, List.getElem_take] at e
    have g : gt (saOf s) ((lo.toNat + n : Nat) : Int) = i := by
      rw [gt_in (by omega) (by omega)]
      simp only [Int.toNat_natCast]; exact e
    have hin := sa_gt sp (k := ((lo.toNat + n : Nat) : Int)) (by omega) (by omega)
    have hpre := (hb ((lo.toNat + n : Nat) : Int) (by omega) (by omega)).2 ⟨by omega, by omega⟩
    rw [g] at hin hpre
    exact ⟨hin, (pre_stands hin).1 hpre⟩
  · rintro ⟨hin, hst⟩
    obtain ⟨k, k0, k1, e⟩ := mem_gt (sa_mem sp hin)
    have := (hb k k0 k1).1 (by rw [e]; exact (pre_stands hin).2 hst)
    have g : (((saOf s).take hi.toNat).drop lo.toNat)[(k - lo).toNat]? = some i := by
      rw [List.getElem?_drop, List.getElem?_take, if_pos (by omega), show lo.toNat + (k - lo).toNat = k.toNat by omega, gt_get? k0 k1, e]
    exact List.mem_of_getElem? g
noncomputable section
def suffix_Find_ct : Ct := find_All_ct
end
end Go.Fu
