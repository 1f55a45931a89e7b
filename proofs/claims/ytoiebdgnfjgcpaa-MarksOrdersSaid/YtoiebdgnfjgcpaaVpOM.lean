/-
  The order of marks.
-/
import Derived.Test.YtoiebdgnfjgcpaaVpSA
import Derived.Test.YtoiebdgnfjgcpaaVpZ
set_option linter.unusedVariables false
set_option linter.unusedSimpArgs false
namespace Go.Fu
open Go.Vc
noncomputable section
abbrev MarkB := Int × Bool
def sdOf (b : Bool) : Int := if b then 1 else 0
def mkCf (ms : List MarkB) (i k : Int) : Int := orL [cmpI (gt ms i).1 (gt ms k).1, cmpI (sdOf (gt ms i).2) (sdOf (gt ms k).2)]
def mkLt (ms : List MarkB) (i k : Int) : Prop := (gt ms i).1 < (gt ms k).1 ∨ (gt ms i).1 = (gt ms k).1 ∧ (gt ms i).2 = false ∧ (gt ms k).2 = true
def marksOrder (ms : List MarkB) : List Int × Int := if 60 < ms.length then ([], 1) else (stab (mkLt ms) (upTo ms.length), 0)
def marks_Order_ct : Ct := ⟨tys1 (.sl tMark), [.own tI, .val tI], fun _ => True, fun ms => marksOrder ms⟩
def ref_MarksOrder_ct : Ct := marks_Order_ct
end
theorem mk_cf (ms : List MarkB) (i k : Int) : mkCf ms i k < 0 ↔ mkLt ms i k := by
  unfold mkCf mkLt
  rw [orL_two]
  unfold orI cmpI sdOf
  rcases (gt ms i).2 <;> rcases (gt ms k).2 <;> simp <;> (try split) <;> (try split) <;> (try split) <;> omega
theorem mk_swo (ms : List MarkB) : Swo (mkLt ms) where
  irrefl x := by unfold mkLt; rintro (h | ⟨_, h1, h2⟩); · omega
                 · rw [h1] at h2; cases h2
  trans x y z h1 h2 := by
    unfold mkLt at *
    rcases h1 with h1 | ⟨a1, a2, a3⟩ <;> rcases h2 with h2 | ⟨b1, b2, b3⟩
    · left; omega
    · left; omega
    · left; omega
    · rw [a3] at b2; cases b2
  ntrans x y z h1 h2 := by
    unfold mkLt at *
    rintro (h | ⟨h3, h4, h5⟩)
    · by_cases c : (gt ms x).1 < (gt ms y).1
      · exact h1 (.inl c)
      · exact h2 (.inl (by omega))
    · by_cases c : (gt ms x).1 < (gt ms y).1
      · exact h1 (.inl c)
      · by_cases c2 : (gt ms y).1 < (gt ms z).1
        · exact h2 (.inl c2)
        · cases hy : (gt ms y).2 with
          | true => exact h1 (.inr ⟨by omega, h4, hy⟩)
          | false => exact h2 (.inr ⟨by omega, hy, h5⟩)
def aheadP (ms : List MarkB) (k x : Int) : Prop := (gt ms k).1 < (gt ms x).1 ∨ (gt ms k).1 = (gt ms x).1 ∧ (¬ (gt ms k).2 = true ∧ (gt ms x).2 = true ∨ ((gt ms k).2 = true ↔ (gt ms x).2 = true) ∧ k < x)
theorem ahead_asymm {ms : List MarkB} {k x : Int} (h : aheadP ms k x) : ¬ aheadP ms x k := by
  unfold aheadP at *
  cases h1 : (gt ms k).2 <;> cases h2 : (gt ms x).2 <;> simp only [h1, h2] at * <;> simp at * <;> omega
theorem ahead_of {ms : List MarkB} {k x : Int} (h1 : ¬ mkLt ms x k) (h2 : ¬ mkLt ms k x → k < x) : aheadP ms k x := by
  unfold aheadP
  unfold mkLt at *
  cases h3 : (gt ms k).2 <;> cases h4 : (gt ms x).2 <;> simp only [h3, h4] at * <;> simp at * <;> omega
theorem order_pair (ms : List MarkB) : (stab (mkLt ms) (upTo ms.length)).Pairwise (aheadP ms) := by
  obtain ⟨h1, h2⟩ := stab_spec (mk_swo ms) (upTo ms.length)
  have asc : (upTo ms.length).Pairwise fun x y : Int => x < y := by
    unfold upTo
    rw [List.pairwise_map]
    exact List.pairwise_lt_range.imp fun h => by omega
  rw [List.pairwise_iff_getElem]
  intro p q hp hq hpq
  have srt := List.pairwise_iff_getElem.1 h2 p q hp hq hpq
  refine ahead_of srt fun hn => ?_
  have hc := h1.2 ((stab (mkLt ms) (upTo ms.length))[p])
  unfold cls at hc
  have pw := asc.filter (p := fun x => bo (alike (lt := mkLt ms) ((stab (mkLt ms) (upTo ms.length))[p]) x))
  have hc : (upTo ms.length).filter (fun x => bo (alike (lt := mkLt ms) ((stab (mkLt ms) (upTo ms.length))[p]) x)) = (stab (mkLt ms) (upTo ms.length)).filter (fun x => bo (alike (lt := mkLt ms) ((stab (mkLt ms) (upTo ms.length))[p]) x)) := hc
  rw [hc, List.pairwise_filter] at pw
  refine List.pairwise_iff_getElem.1 pw p q hp hq hpq (bo_true.2 ⟨(mk_swo ms).irrefl _, (mk_swo ms).irrefl _⟩) (bo_true.2 ⟨srt, hn⟩)
theorem count_pos {R : Int → Int → Prop} (ha : ∀ x y, R x y → ¬ R y x) : ∀ {l : List Int} (p : Nat) (hp : p < l.length), l.Pairwise R → l.countP (fun k => bo (R k l[p])) = p
  | [], p, hp, _ => by simp at hp
  | a :: l, 0, hp, h => by
    rw [List.getElem_cons_zero, List.countP_eq_zero]
    intro x hx
    rw [bo_true]
    rcases List.mem_cons.1 hx with rfl | hx
    · exact fun q => ha _ _ q q
    · exact ha _ _ ((List.pairwise_cons.1 h).1 x hx)
  | a :: l, p + 1, hp, h => by
    have hp' : p < l.length := by simpa using hp
    rw [List.getElem_cons_succ, List.countP_cons, count_pos ha p hp' (List.pairwise_cons.1 h).2, if_pos (bo_true.2 ((List.pairwise_cons.1 h).1 _ (List.getElem_mem _)))]
noncomputable def rankOf (ms : List MarkB) (x : Int) : Nat := (upTo ms.length).countP fun k => bo (aheadP ms k x)
theorem rank_at (ms : List MarkB) {p : Int} (h0 : 0 ≤ p) (h1 : p < ms.length) : (rankOf ms (gt (stab (mkLt ms) (upTo ms.length)) p) : Int) = p := by
  have hl : (stab (mkLt ms) (upTo ms.length)).length = ms.length := by rw [stab_len (mk_swo ms), upTo_len]
  obtain ⟨g1, _⟩ := stab_spec (mk_swo ms) (upTo ms.length)
  unfold rankOf
  rw [g1.1.countP_eq, gt_in h0 (by omega), count_pos (fun x y => ahead_asymm) p.toNat (by omega) (order_pair ms)]
  omega
theorem rank_inv (ms : List MarkB) {x : Int} (h0 : 0 ≤ x) (h1 : x < ms.length) : (rankOf ms x : Int) < ms.length ∧ gt (stab (mkLt ms) (upTo ms.length)) (rankOf ms x) = x := by
  have hl : (stab (mkLt ms) (upTo ms.length)).length = ms.length := by rw [stab_len (mk_swo ms), upTo_len]
  obtain ⟨g1, _⟩ := stab_spec (mk_swo ms) (upTo ms.length)
  obtain ⟨p, p0, p1, e⟩ := mem_gt (g1.1.mem_iff.1 (upTo_mem.2 ⟨h0, h1⟩))
  have := rank_at ms p0 (by omega : p < ms.length)
  rw [e] at this
  rw [this]
  exact ⟨by omega, e⟩
end Go.Fu
