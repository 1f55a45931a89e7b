/-
  The order of a text's ends: the contracts of what works on it.
-/
import Derived.Test.YtoiebdgnfjgcpaaVpB
import Derived.Test.YtoiebdgnfjgcpaaVpYB
set_option linter.unusedVariables false
set_option linter.unusedSimpArgs false
namespace Go.Fu
open Go.Vc

theorem sa_exists (s : Bts) : ∃ l, isSa s l := by
  classical
  let le : Int → Int → Bool := fun i j => decide (¬ lexLt (suf s j) (suf s i))
  have hp := List.mergeSort_perm (upTo s.length) le
  have hs : ((upTo s.length).mergeSort le).Pairwise fun i j => le i j = true :=
    List.pairwise_mergeSort (le := le) (fun a b c h1 h2 => by
      simp only [le, decide_eq_true_eq] at *
      exact lex_ntrans h2 h1) (fun a b => by
      simp only [le, Bool.or_eq_true, decide_eq_true_eq]
      by_cases h : lexLt (suf s b) (suf s a)
      · exact .inr (lex_asymm h)
      · exact .inl h) _
  refine ⟨_, hp, ?_⟩
  have hn : ((upTo s.length).mergeSort le).Nodup := hp.nodup_iff.2 (upTo_nodup _)
  refine (hs.and hn).imp_of_mem ?_
  rintro a b ha hb ⟨h1, h2⟩
  simp only [le, decide_eq_true_eq] at h1
  rcases lex_total (suf s a) (suf s b) with q | q | q
  · exact q
  · exact absurd (suf_inj (sa_in hp ha) (sa_in hp hb) q) h2
  · exact absurd q h1
theorem sa_spec (s : Bts) : isSa s (saOf s) := Classical.epsilon_spec (sa_exists s)

/-! ### What stands there again -/
def againOk (s : Bts) (r : Int × Int) : Prop :=
  0 ≤ r.2 ∧ (∀ i k : Int, 0 ≤ i → i < k → k < s.length → lcpI s i k ≤ r.2) ∧ (r.2 = 0 → r.1 = 0) ∧
    (0 < r.2 → 0 ≤ r.1 ∧ (∃ k : Int, r.1 < k ∧ k < s.length ∧ lcpI s r.1 k = r.2) ∧ ∀ i k : Int, 0 ≤ i → i < r.1 → i < k → k < s.length → lcpI s i k < r.2)
noncomputable def again (s : Bts) : Int × Int := Classical.epsilon (againOk s)
theorem again_uniq {s : Bts} {r q : Int × Int} (h : againOk s r) (g : againOk s q) : q = r := by
  obtain ⟨r1, r2⟩ := r
  obtain ⟨q1, q2⟩ := q
  obtain ⟨h1, h2, h3, h4⟩ := h
  obtain ⟨g1, g2, g3, g4⟩ := g
  simp only at *
  have e : q2 = r2 := by
    rcases Int.lt_or_le 0 q2 with a | a
    · obtain ⟨p1, ⟨k, p2, p3, p4⟩, -⟩ := g4 a
      have := h2 q1 k p1 p2 p3
      rcases Int.lt_or_le 0 r2 with b | b
      · obtain ⟨s1, ⟨m, s2, s3, s4⟩, -⟩ := h4 b
        have := g2 r1 m s1 s2 s3
        omega
      · omega
    · rcases Int.lt_or_le 0 r2 with b | b
      · obtain ⟨s1, ⟨m, s2, s3, s4⟩, -⟩ := h4 b
        have := g2 r1 m s1 s2 s3
        omega
      · omega
  subst e
  rcases Int.lt_or_le 0 q2 with a | a
  · obtain ⟨p1, ⟨k, p2, p3, p4⟩, p5⟩ := g4 a
    obtain ⟨s1, ⟨m, s2, s3, s4⟩, s5⟩ := h4 a
    rcases Int.lt_trichotomy q1 r1 with c | c | c
    · have := s5 q1 k p1 c p2 p3; omega
    · rw [c]
    · have := p5 r1 m s1 c s2 s3; omega
  · rw [g3 (by omega), h3 (by omega)]
theorem again_eq {s : Bts} {r : Int × Int} (h : againOk s r) : again s = r := again_uniq h (Classical.epsilon_spec (p := againOk s) ⟨r, h⟩)

noncomputable section
def suffixFault (s : Bytes) : Int := if 600 < s.length then 1 else 0
def suffix_fault_ct : Ct := ⟨tys1 .str, [.val tI], fun s => fitS s, fun s => suffixFault s⟩
def suffix_common_ct : Ct := ⟨tys2 .str (.sl tI), [.own tI], fun x => x.1.length ≤ 600 ∧ isSa x.1 x.2, fun x => comOf x.1 x.2⟩
def suffixSort (s : Bytes) : List Int × Int := if 600 < s.length then ([], 1) else (saOf s, 0)
def suffix_Sort_ct : Ct := ⟨tys1 .str, [.own tI, .val tI], fun s => fitS s, fun s => suffixSort s⟩
def ref_SuffixSort_ct : Ct := suffix_Sort_ct
def suffixCommon (s : Bytes) : List Int × Int := if 600 < s.length then ([], 1) else (comOf s (saOf s), 0)
def suffix_Common_ct : Ct := ⟨tys1 .str, [.own tI, .val tI], fun s => fitS s, fun s => suffixCommon s⟩
def ref_SuffixCommon_ct : Ct := suffix_Common_ct
def suffixUnlike (s : Bytes) : Int × Int := if 600 < s.length then (0, 1) else ((s.length : Int) * (s.length + 1) / 2 - sumL (comOf s (saOf s)), 0)
def suffix_Unlike_ct : Ct := ⟨tys1 .str, [.val tI, .val tI], fun s => fitS s, fun s => suffixUnlike s⟩
def ref_SuffixUnlike_ct : Ct := suffix_Unlike_ct
def suffixAgain (s : Bytes) : Int × Int × Int := if 600 < s.length then (0, 0, 1) else ((again s).1, (again s).2, 0)
def suffix_Again_ct : Ct := ⟨tys1 .str, [.val tI, .val tI, .val tI], fun s => fitS s, fun s => suffixAgain s⟩
def ref_SuffixAgain_ct : Ct := suffix_Again_ct
def ref_beginAlike_ct : Ct := ⟨tys2 .str .str, [.val tI], fun x => fitS x.1 ∧ fitS x.2, fun x => (lcp x.1 x.2 : Int)⟩
def ref_ends_ct : Ct := ⟨tys1 .str, [.own tI], fun s => s.length ≤ 600, fun s => saOf s⟩
end
end Go.Fu
