/- The contracts of the functions that the law reaches, and that of the law. Conditions: none. -/
import Derived.Test.YtoiebdgnfjgcpaaWWordsFinds
import Derived.Test.YtoiebdgnfjgcpaaW1
set_option linter.unusedVariables false
set_option linter.unusedSimpArgs false
set_option maxRecDepth 100000
namespace Go.Proofs.Ytoiebdgnfjgcpaa
open Go.Vc Go.Fu

theorem words_part_hC : Cons Try.prog [] := trivial
theorem words_part_con : Con Try.prog f_words_part words_part_ct := words_part_vc words_part_hC fun c h => by
  exact bo_congr (by unfold partI; omega)

theorem words_Noted_hC : Cons Try.prog [(f_words_part, words_part_ct)] := ⟨words_part_con, trivial⟩
theorem words_Noted_con : Con Try.prog f_words_Noted words_Noted_ct := words_Noted_vc words_Noted_hC fun w h => by
  have h : w.length ≤ 140737488351232 := h
  refine ⟨fun x => 0 ≤ x ∧ x ≤ w.length ∧ ∀ j : Int, 0 ≤ j → j < x → isP (gt w j) = true, fun x => (w.length - x).toNat, ⟨by omega, by omega, fun j h1 h2 => by omega⟩, fun x ⟨h0, h1, h2⟩ => ?_⟩
  dsimp only
  refine ⟨fun q => ⟨h0, q, trivial, fun c => ?_, fun c => ?_⟩, fun q => ?_⟩
  · refine false_bo.2 fun hw => c (bo_true.2 ((part_iff _).1 (hw.2.2 _ (gt_mem h0 q))))
  · have hp : isP (gt w x) = true := (part_iff _).2 (bo_true.1 (Classical.not_not.1 c))
    refine ⟨by unfold inI64; omega, ⟨by omega, by omega, fun j j0 j1 => ?_⟩, by omega⟩
    by_cases e : j = x
    · rw [e]; exact hp
    · exact h2 j j0 (by omega)
  · refine bo_congr ⟨fun ⟨a, b⟩ => ⟨a, by omega, fun c hc => ?_⟩, fun ⟨a, b, _⟩ => ⟨a, by omega⟩⟩
    obtain ⟨i, i0, i1, rfl⟩ := mem_gt hc
    exact h2 i i0 (by omega)
theorem words_Find_con : Con Try.prog f_words_Find words_Find_ct := P.words_Find_con' words_part_con words_Noted_con

theorem ref_letter_hC : Cons Try.prog [] := trivial
theorem ref_letter_con : Con Try.prog f_ref_letter ref_letter_ct := ref_letter_vc ref_letter_hC fun c h => by
  exact bo_congr (by unfold partI; omega)

theorem ref_wordAt_hC : Cons Try.prog [(f_ref_letter, ref_letter_ct)] := ⟨ref_letter_con, trivial⟩
theorem ref_wordAt_con : Con Try.prog f_ref_wordAt ref_wordAt_ct := ref_wordAt_vc ref_wordAt_hC fun s i h => by
  obtain ⟨h1, h2, h3⟩ := h
  have h1 : s.length ≤ 140737488351232 := h1
  have h2 : 0 ≤ i := h2
  have h3 : i ≤ s.length := h3
  obtain ⟨k, rfl⟩ : ∃ k : Nat, i = (k : Int) := ⟨i.toNat, by omega⟩
  have hw : wordAt s (k : Int) = wordOf s k := by unfold wordAt; rw [Int.toNat_natCast]
  rw [hw]
  refine ⟨fun _ => by unfold inI64; omega, fun _ => by omega, fun _ => by omega, fun _ => trivial, fun ⟨a, b⟩ => ?_, fun c => ?_⟩
  · refine (wordOf_shut fun q => ?_).symm
    rcases q with q | q
    · omega
    · exact (part_not _).1 q (bo_true.1 b)
  have ho : opens s k := by
    by_cases z : k = 0
    · exact .inl z
    · exact .inr ((part_not _).2 fun q => c ⟨by omega, bo_true.2 q⟩)
  refine ⟨fun e => k ≤ e ∧ e ≤ s.length ∧ ∀ j : Int, k ≤ j → j < e → isP (gt s j) = true, fun e => (s.length - e).toNat, ⟨by omega, by omega, fun j a b => by omega⟩, fun e ⟨e0, e1, e2⟩ => ?_⟩
  dsimp only
  refine ⟨fun _ => by omega, id, fun _ => trivial, fun ⟨a, b⟩ => ?_, fun c => ?_⟩
  · have hp : isP (gt s e) = true := (part_iff _).2 (bo_true.1 b)
    refine ⟨by unfold inI64; omega, ⟨by omega, by omega, fun j j0 j1 => ?_⟩, by omega⟩
    by_cases q : j = e
    · rw [q]; exact hp
    · exact e2 j j0 (by omega)
  · have hr : runL s k = (e - k).toNat := run_eq (by omega) (fun j hj => e2 _ (by omega) (by omega)) (by
      by_cases z : e = s.length
      · left; omega
      · right
        rw [show ((k + (e - k).toNat : Nat) : Int) = e by omega]
        exact (part_not _).2 fun q => c ⟨by omega, bo_true.2 q⟩)
    rw [wordOf_open ho, hr]
    refine ⟨by unfold inI64; omega, fun q => by rw [if_neg (by omega)], fun q => ⟨h2, e0, e1, ?_⟩⟩
    rw [if_pos (by omega), Int.toNat_natCast, List.drop_take]
    congr 1; omega

theorem ref_WordsFind_hC : Cons Try.prog [(f_ref_wordAt, ref_wordAt_ct)] := ⟨ref_wordAt_con, trivial⟩
theorem ref_WordsFind_con : Con Try.prog f_ref_WordsFind ref_WordsFind_ct := ref_WordsFind_vc ref_WordsFind_hC fun s w h => by
  obtain ⟨h1, h2⟩ := h
  have h1 : s.length ≤ 140737488351232 := h1
  have hi := isWord_at w
  refine ⟨fun _ => ⟨h2, Int.le_refl _, by omega⟩, fun c => ?_, fun c => ⟨fun q => ?_, fun q => ?_⟩⟩
  · have : ¬ isWord w := fun q => by
      have := hi.1 q
      rcases c with c | c
      · exact this.1 c
      · exact c this.2
    unfold wordsFind
    rw [if_pos this]; exact ⟨rfl, rfl⟩
  all_goals
    have hw : isWord w := hi.2 ⟨fun e => c (.inl e), Classical.byContradiction fun e => c (.inr e)⟩
    unfold wordsFind
    rw [if_neg (by simpa using hw)]
  · rw [if_pos (by omega)]; exact ⟨rfl, rfl⟩
  rw [if_neg (by omega)]
  dsimp only
  rw [findW_each hw.1]
  refine ⟨fun x out => 0 ≤ x ∧ x ≤ s.length ∧ out = ((List.range x.toNat).filter fun i : Nat => wordOf s i = w).map fun i : Nat => (i : Int), fun x _ => (s.length - x).toNat, ⟨by omega, by omega, rfl⟩, fun x out ⟨x0, x1, x2⟩ => ?_⟩
  dsimp only
  have ol : out.length ≤ x.toNat := by
    rw [x2, List.length_map]
    refine Nat.le_trans (List.length_filter_le _ _) ?_
    simp
  refine ⟨fun r => ⟨⟨h1, x0, by omega⟩, fun e => ?_, fun e => ?_⟩, fun r => ?_⟩
  · refine ⟨by omega, by unfold inI64; omega, ⟨by omega, by omega, ?_⟩, by omega⟩
    rw [show (x + 1).toNat = x.toNat + 1 by omega, List.range_succ, List.filter_append, List.map_append, ← x2]
    congr 1
    rw [List.filter_cons, if_pos (by have e : wordOf s x.toNat = w := e; simpa using e)]
    simp; omega
  · refine ⟨by unfold inI64; omega, ⟨by omega, by omega, ?_⟩, by omega⟩
    rw [show (x + 1).toNat = x.toNat + 1 by omega, List.range_succ, List.filter_append, List.map_append, ← x2]
    rw [List.filter_cons, if_neg (by have e : ¬ wordOf s x.toNat = w := e; simpa using e)]
    simp
  · rw [x2, show x.toNat = s.length by omega]
    exact ⟨rfl, rfl⟩

theorem law_sameInts_hC : Cons Try.prog [] := trivial
theorem law_sameInts_con : Con Try.prog f_law_sameInts law_sameInts_ct := law_sameInts_vc law_sameInts_hC fun a b h => by
  simp only [inI_iff, true_and, and_true, ne_eq, Int.reduceEq, not_false_eq_true, Int.toNat_zero, false_bo, true_bo, fitL] at *
  refine ⟨fun q e => q (by rw [e]), fun q => ⟨fun i => 0 ≤ i ∧ i ≤ a.length ∧ ∀ j : Int, 0 ≤ j → j < i → gt a j = gt b j, fun i => (a.length - i).toNat, ⟨by omega, by omega, fun j h1 h2 => by omega⟩, fun i ⟨h0, h1, h2⟩ => ?_⟩⟩
  dsimp only
  refine ⟨fun r => ⟨h0, r, h0, by omega, fun t e => t (by rw [e]), fun t => ⟨by omega, ⟨by omega, by omega, fun j j0 j1 => ?_⟩, by omega⟩⟩, fun r => ?_⟩
  · by_cases e : j = i
    · rw [e]; exact Classical.byContradiction t
    · exact h2 j j0 (by omega)
  · exact ext_gt (by omega) fun j j0 j1 => h2 j j0 (by omega)

theorem law_WordsFinds_hC : Cons Try.prog [(f_words_Find, words_Find_ct), (f_ref_WordsFind, ref_WordsFind_ct), (f_law_sameInts, law_sameInts_ct)] := ⟨words_Find_con, ref_WordsFind_con, law_sameInts_con, trivial⟩
theorem law_WordsFinds_con : Con Try.prog f_law_WordsFinds law_WordsFinds_ct := law_WordsFinds_vc law_WordsFinds_hC fun s w h => by
  have : fitL (wordsFind s w).1 := by
    have := findW_len s w
    have h1 : s.length ≤ 140737488351232 := h.1
    unfold wordsFind
    split
    · exact Nat.zero_le _
    · split
      · exact Nat.zero_le _
      · show (findW s w).length ≤ _; omega
  exact ⟨h, h, ⟨this, this⟩, by simp⟩

end Go.Proofs.Ytoiebdgnfjgcpaa
