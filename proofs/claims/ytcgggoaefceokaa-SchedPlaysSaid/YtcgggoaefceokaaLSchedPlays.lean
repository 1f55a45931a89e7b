/- The contracts of the functions that the law reaches, and that of the law. Conditions: none. -/
import Derived.Test.YtcgggoaefceokaaWSchedPlays
set_option linter.unusedVariables false
set_option linter.unusedSimpArgs false
set_option maxRecDepth 100000
namespace Go.Proofs.Ytcgggoaefceokaa
open Go.Vc Go.Fu

theorem sched_Play_hC : Cons Try.prog [] := trivial
theorem sched_Play_con : Con Try.prog f_sched_Play sched_Play_ct := sched_Play_vc sched_Play_hC fun l _ => by
  simp only [inI_iff, true_and, and_true, ne_eq, Int.reduceEq, not_false_eq_true, Int.toNat_zero, schedPlay]
  refine ⟨fun q => by rw [if_pos (by omega)]; exact ⟨rfl, rfl⟩, fun q => ?_⟩
  rw [if_neg (by omega)]
  refine ⟨fun x lo n nx out row => 0 ≤ x ∧ x ≤ l.length ∧ 0 ≤ lo ∧ 0 ≤ n ∧ lo + n = row.length ∧ n ≤ x ∧ 0 ≤ nx ∧ nx ≤ x ∧ out.length ≤ x ∧ (∀ t ∈ row.drop lo.toNat, 0 < t.2 ∧ t.2 ≤ 600) ∧ schedGo [] 0 l = out ++ schedGo (row.drop lo.toNat) nx (l.drop x.toNat), fun x _ _ _ _ _ => (l.length - x).toNat, ⟨by omega, by omega, by omega, by omega, by simp, by omega, by omega, by omega, by simp, by simp, by simp⟩, ?_⟩
  rintro x lo n nx out row ⟨h0, h1, h2, h3, h4, h5, h6, h7, h8, h9, h10⟩
  dsimp only
  have ft : List.take n.toNat (List.drop lo.toNat row) = List.drop lo.toNat row := List.take_of_length_le (by simp; omega)
  have ft1 : List.take (n - 1).toNat (List.drop (lo + 1).toNat row) = List.drop (lo + 1).toNat row := List.take_of_length_le (by simp; omega)
  have lq : ((List.drop lo.toNat row).length : Int) = n := by simp; omega
  simp only [ft, ft1, Int.add_zero]
  refine ⟨fun t => ⟨h0, t, ?_⟩, fun t => ?_⟩
  · rw [schedGo_drop h0 t] at h10
    generalize gt l x = j at *
    generalize hq : List.drop lo.toNat row = qq at *
    refine ⟨fun k => ⟨fun b => ?_, fun b => ?_⟩, fun k => ⟨fun k2 => ⟨fun b => ?_, fun b => ⟨fun e => ?_, fun e => ?_⟩⟩, fun k2 => ?_⟩⟩
    · rw [step_push_bad k b] at h10
      exact ⟨by omega, by omega, ⟨by omega, by omega, by omega, by omega, by omega, by omega, by omega, by omega, by simp; omega, h9, by simpa using h10⟩, by omega⟩
    · rw [step_push k b] at h10
      refine ⟨by omega, fun p => ?_, fun p => ?_⟩
      · simp only [if_pos p] at h10
        refine ⟨by omega, by omega, by omega, ⟨by omega, by omega, by omega, by omega, by simp, by simp; omega, by omega, by omega, by simp; omega, ?_, by simpa using h10⟩, by omega⟩
        intro t ht
        simp at ht
        rcases ht with ht | ht
        · exact h9 t ht
        · subst ht; exact ⟨p, by simp only; omega⟩
      · simp only [if_neg p] at h10
        exact ⟨by omega, by omega, ⟨by omega, by omega, by omega, by omega, by omega, by omega, by omega, by omega, by simp; omega, h9, by simpa using h10⟩, by omega⟩
    · rw [step_turn_bad k2 b] at h10
      exact ⟨by omega, by omega, ⟨by omega, by omega, by omega, by omega, by omega, by omega, by omega, by omega, by simp; omega, h9, by simpa using h10⟩, by omega⟩
    · have e0 : qq = [] := List.length_eq_zero_iff.1 (by omega)
      rw [e0, step_turn_none k2 b] at h10
      exact ⟨by omega, by omega, ⟨by omega, by omega, by omega, by omega, by omega, by omega, by omega, by omega, by simp; omega, h9, by rw [e0]; simpa using h10⟩, by omega⟩
    · have e1 : qq = gt row lo :: List.drop (lo + 1).toNat row := by rw [← hq]; exact drop_gt h2 (by omega)
      have hg := h9 (gt row lo) (by rw [e1]; simp)
      have h9' : ∀ t ∈ List.drop (lo + 1).toNat row, 0 < t.2 ∧ t.2 ≤ 600 := fun t ht => h9 t (by rw [e1]; simp [ht])
      rw [e1, step_turn k2 b] at h10
      have ll : ((List.drop (lo + 1).toNat row).length : Int) = n - 1 := by simp; omega
      refine ⟨by omega, by omega, by omega, by omega, by omega, by omega, fun p => ?_, fun p => ?_⟩
      · simp only [if_pos p] at h10
        refine ⟨by omega, by omega, by omega, ⟨by omega, by omega, by omega, by omega, by simp, by simp; omega, by omega, by omega, by simp; omega, ?_, by simpa using h10⟩, by omega⟩
        intro t ht
        simp only [List.drop_zero, Int.toNat_zero, List.mem_append, List.mem_singleton] at ht
        rcases ht with ht | ht
        · exact h9' t ht
        · subst ht; exact ⟨p, by simp only; omega⟩
      · simp only [if_neg p] at h10
        exact ⟨by omega, by omega, ⟨by omega, by omega, by omega, by omega, by omega, by omega, by omega, by omega, by simp; omega, h9', by simpa using h10⟩, by omega⟩
    · rw [step_kind k k2] at h10
      exact ⟨by omega, by omega, ⟨by omega, by omega, by omega, by omega, by omega, by omega, by omega, by omega, by simp; omega, h9, by simpa using h10⟩, by omega⟩
  · rw [show List.drop x.toNat l = [] from List.drop_of_length_le (by omega)] at h10
    simp only [schedGo, List.append_nil] at h10
    exact ⟨h10.symm, by trivial⟩

theorem ref_SchedPlayed_hC : Cons Try.prog [] := trivial
theorem ref_SchedPlayed_con : Con Try.prog f_ref_SchedPlayed ref_SchedPlayed_ct := ref_SchedPlayed_vc ref_SchedPlayed_hC fun l _ => by
  simp only [inI_iff, true_and, and_true, ne_eq, Int.reduceEq, not_false_eq_true, Int.toNat_zero, schedPlay]
  refine ⟨fun q => by rw [if_pos (by omega)]; exact ⟨rfl, rfl⟩, fun q => ?_⟩
  rw [if_neg (by omega)]
  refine ⟨fun c x left since out => 0 ≤ x ∧ x ≤ l.length ∧ c = x ∧ left.length ≤ x ∧ out.length ≤ x ∧ ∃ q, QOk q left since c ∧ schedGo [] 0 l = out ++ schedGo q left.length (l.drop x.toNat), fun _ x _ _ _ => (l.length - x).toNat, ⟨by omega, by omega, rfl, by simp, by simp, [], .zero, by simp⟩, ?_⟩
  rintro c x left since out ⟨h0, h1, h2, h3, h4, q, h5, h6⟩
  dsimp only
  subst h2
  have hl := h5.len
  refine ⟨fun t => ⟨h0, t, by omega, ?_⟩, fun t => ?_⟩
  · rw [schedGo_drop h0 t] at h6
    generalize gt l c = j at *
    refine ⟨fun k => ?_, fun k => ⟨fun k1 => ?_, fun k1 => ⟨fun k2 => ?_, fun k2 => ⟨fun k3 => ?_, fun k3 => ?_⟩⟩⟩⟩
    · rw [step_push_bad k.1 k.2] at h6
      exact ⟨by omega, by omega, ⟨by omega, by omega, rfl, by omega, by simp; omega, q, h5.more, by simpa using h6⟩, by omega⟩
    · have k' : ¬ (j.2 < 0 ∨ 600 < j.2) := fun e => k ⟨k1, e⟩
      rw [step_push k1 k'] at h6
      exact ⟨by omega, by omega, by omega, by omega, ⟨by omega, by omega, rfl, by simp; omega, by simp; omega, _, h5.push (by omega) (by omega), by simpa using h6⟩, by omega⟩
    · rw [step_turn_bad k2.1 k2.2] at h6
      exact ⟨by omega, by omega, ⟨by omega, by omega, rfl, by omega, by simp; omega, q, h5.more, by simpa using h6⟩, by omega⟩
    · have k' : ¬ (j.2 < 1 ∨ 50 < j.2) := fun e => k2 ⟨k3, e⟩
      refine ⟨fun t y => 0 ≤ y ∧ y ≤ left.length ∧ ((t = -1 ∧ ∀ i : Int, 0 ≤ i → i < y → ¬ 0 < gt left i) ∨ (0 ≤ t ∧ t < y ∧ 0 < gt left t ∧ ∀ i : Int, 0 ≤ i → i < y → 0 < gt left i → gt since t ≤ gt since i)), fun _ y => (left.length - y).toNat, ⟨by omega, by omega, .inl ⟨rfl, fun i a b => by omega⟩⟩, ?_⟩
      rintro t' y ⟨g0, g1, g2⟩
      dsimp only
      refine ⟨fun u => ⟨g0, u, fun _ => g0, fun _ => by omega, fun _ => by omega, fun _ => by omega, by omega, ⟨by omega, by omega, ?_⟩, by omega⟩, fun u => ⟨fun z => ?_, fun z => ?_⟩⟩
      · by_cases w : 0 < gt left y ∧ (t' < 0 ∨ gt since y < gt since t')
        · rw [iteP_pos w]
          refine .inr ⟨g0, by omega, w.1, fun i i0 i1 i2 => ?_⟩
          by_cases e : i = y
          · subst e; omega
          · rcases g2 with ⟨g2, g3⟩ | ⟨g2, g3, g4, g5⟩
            · exact absurd i2 (g3 i i0 (by omega))
            · have := g5 i i0 (by omega) i2; omega
        · rw [iteP_neg w]
          rcases g2 with ⟨g2, g3⟩ | ⟨g2, g3, g4, g5⟩
          · refine .inl ⟨g2, fun i i0 i1 => ?_⟩
            by_cases e : i = y
            · subst e; exact fun d => w ⟨d, .inl (by omega)⟩
            · exact g3 i i0 (by omega)
          · refine .inr ⟨g2, by omega, g4, fun i i0 i1 i2 => ?_⟩
            by_cases e : i = y
            · subst e
              rcases Int.lt_or_le (gt since i) (gt since t') with d | d
              · exact absurd ⟨i2, .inr d⟩ w
              · exact d
            · exact g5 i i0 (by omega) i2
      · rcases g2 with ⟨g2, g3⟩ | ⟨g2, g3, g4, g5⟩
        · have e := h5.none fun i a b => g3 i a (by omega)
          subst e
          rw [step_turn_none k3 k'] at h6
          exact ⟨by omega, by omega, ⟨by omega, by omega, rfl, by omega, by simp; omega, [], h5.more, by simpa using h6⟩, by omega⟩
        · omega
      · rcases g2 with ⟨g2, g3⟩ | ⟨g2, g3, g4, g5⟩
        · omega
        · obtain ⟨r, hr⟩ := h5.head g2 (by omega) g4 fun i a b => g5 i a (by omega)
          have bd := h5.bd t' g2 (by omega)
          subst hr
          rw [step_turn k3 k'] at h6
          rw [gt_set_eq g2 (by omega)]
          refine ⟨by omega, by omega, by omega, by omega, by omega, by omega, by omega, by omega, by omega, by omega, by simp; omega, by omega, by omega, ⟨by omega, by omega, rfl, by simp; omega, by simp; omega, _, h5.turn (v := gt left t' - min j.2 (gt left t')) (by omega) (by omega), by simpa using h6⟩, by omega⟩
    · rw [step_kind k1 k3] at h6
      exact ⟨by omega, by omega, ⟨by omega, by omega, rfl, by omega, by simp; omega, q, h5.more, by simpa using h6⟩, by omega⟩
  · rw [List.drop_of_length_le (by omega)] at h6
    simp only [schedGo, List.append_nil] at h6
    exact ⟨h6.symm, rfl⟩

theorem law_SchedPlays_hC : Cons Try.prog [(f_sched_Play, sched_Play_ct), (f_ref_SchedPlayed, ref_SchedPlayed_ct)] := ⟨sched_Play_con, ref_SchedPlayed_con, trivial⟩
theorem law_SchedPlays_con : Con Try.prog f_law_SchedPlays law_SchedPlays_ct := law_SchedPlays_vc law_SchedPlays_hC fun l _ => by
  have hl := schedPlay_len l
  simp only [inI_iff, true_and, and_true, ne_eq, Int.reduceEq, not_false_eq_true, Int.toNat_zero]
  refine ⟨fun c => by simp at c, fun _ => ⟨fun i => 0 ≤ i ∧ i ≤ (schedPlay l).1.length, fun i => ((schedPlay l).1.length - i).toNat, by omega, ?_⟩⟩
  rintro i ⟨h0, h1⟩
  dsimp only
  exact ⟨fun t => ⟨h0, t, h0, t, fun c => absurd trivial c, fun _ => ⟨by omega, ⟨by omega, by omega⟩, by omega⟩⟩, fun _ => trivial⟩

end Go.Proofs.Ytcgggoaefceokaa
