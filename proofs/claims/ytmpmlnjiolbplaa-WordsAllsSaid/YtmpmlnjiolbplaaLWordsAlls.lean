/- The contracts of the functions that the law reaches, and that of the law. Conditions: none. -/
import Derived.Test.YtmpmlnjiolbplaaWWordsAlls
import Derived.Test.YtmpmlnjiolbplaaW3
import Derived.Test.YtmpmlnjiolbplaaW4
set_option linter.unusedVariables false
set_option linter.unusedSimpArgs false
set_option maxRecDepth 100000
namespace Go.Proofs.Ytmpmlnjiolbplaa
open Go.Vc Go.Fu

theorem words_part_hC : Cons Try.prog [] := trivial
theorem words_part_con : Con Try.prog f_words_part words_part_ct := words_part_vc words_part_hC fun c h => by
  exact bo_congr (by unfold partI; omega)
theorem words_All_con : Con Try.prog f_words_All words_All_ct := W.words_All_con' words_part_con

theorem ref_letter_hC : Cons Try.prog [] := trivial
theorem ref_letter_con : Con Try.prog f_ref_letter ref_letter_ct := ref_letter_vc ref_letter_hC fun c h => by
  exact bo_congr (by unfold partI; omega)

theorem ref_wordAt_hC : Cons Try.prog [(f_ref_letter, ref_letter_ct)] := ⟨ref_letter_con, trivial⟩
theorem ref_wordAt_con : Con Try.prog f_ref_wordAt ref_wordAt_ct := ref_wordAt_vc ref_wordAt_hC fun s i h => by
  obtain ⟨h1, h2, h3⟩ := h
  have h1 : s.length ≤ 140737488351232 := h1
  have h2 : 0 ≤ i := h2
  have h3 : i ≤ s.length := h3
  obtain ⟨k, rfl⟩ : ∃ k : Nat, i = (k : Int) := ⟨i.toNat, by omega⟩
  have hw : wordAt s (k : Int) = wordOf s k := by unfold wordAt; rw [Int.toNat_natCast]
  rw [hw]
  refine ⟨fun _ => by unfold inI64; omega, fun _ => by omega, fun _ => by omega, fun _ => trivial, fun ⟨a, b⟩ => ?_, fun c => ?_⟩
  · refine (wordOf_shut fun q => ?_).symm
    rcases q with q | q
    · omega
    · exact (part_not _).1 q (bo_true.1 b)
  have ho : opens s k := by
    by_cases z : k = 0
    · exact .inl z
    · exact .inr ((part_not _).2 fun q => c ⟨by omega, bo_true.2 q⟩)
  refine ⟨fun e => k ≤ e ∧ e ≤ s.length ∧ ∀ j : Int, k ≤ j → j < e → isP (gt s j) = true, fun e => (s.length - e).toNat, ⟨by omega, by omega, fun j a b => by omega⟩, fun e ⟨e0, e1, e2⟩ => ?_⟩
  dsimp only
  refine ⟨fun _ => by omega, id, fun _ => trivial, fun ⟨a, b⟩ => ?_, fun c => ?_⟩
  · have hp : isP (gt s e) = true := (part_iff _).2 (bo_true.1 b)
    refine ⟨by unfold inI64; omega, ⟨by omega, by omega, fun j j0 j1 => ?_⟩, by omega⟩
    by_cases q : j = e
    · rw [q]; exact hp
    · exact e2 j j0 (by omega)
  · have hr : runL s k = (e - k).toNat := run_eq (by omega) (fun j hj => e2 _ (by omega) (by omega)) (by
      by_cases z : e = s.length
      · left; omega
      · right
        rw [show ((k + (e - k).toNat : Nat) : Int) = e by omega]
        exact (part_not _).2 fun q => c ⟨by omega, bo_true.2 q⟩)
    rw [wordOf_open ho, hr]
    refine ⟨by unfold inI64; omega, fun q => by rw [if_neg (by omega)], fun q => ⟨h2, e0, e1, ?_⟩⟩
    rw [if_pos (by omega), Int.toNat_natCast, List.drop_take]
    congr 1; omega
theorem ref_WordsAll_con : Con Try.prog f_ref_WordsAll ref_WordsAll_ct := R.ref_WordsAll_con' ref_wordAt_con

theorem ref_SameWords_hC : Cons Try.prog [] := trivial
theorem ref_SameWords_con : Con Try.prog f_ref_SameWords ref_SameWords_ct := ref_SameWords_vc ref_SameWords_hC fun a b h => by
  obtain ⟨⟨h1, h2⟩, h3, h4⟩ := h
  have h1 : a.length ≤ 140737488351232 := h1
  simp only [inI_iff, true_and, and_true, ne_eq, Int.reduceEq, not_false_eq_true, Int.toNat_zero, false_bo, true_bo] at *
  refine ⟨fun q e => q (by rw [e]), fun q => ⟨fun i => 0 ≤ i ∧ i ≤ a.length ∧ ∀ j : Int, 0 ≤ j → j < i → gt a j = gt b j, fun i => (a.length - i).toNat, ⟨by omega, by omega, fun j h1 h2 => by omega⟩, fun i ⟨h0, hi, hj⟩ => ?_⟩⟩
  dsimp only
  refine ⟨fun r => ⟨h0, r, h0, by omega, fun _ => h0, fun _ => r, fun _ => h0, fun _ => by omega, fun t e => ?_, fun t => ⟨h0, r, ?_⟩⟩, fun r => ?_⟩
  · rw [e] at t; rcases t with t | t <;> exact t rfl
  · have e1 : (gt a i).1 = (gt b i).1 := Classical.byContradiction fun c => t (.inl c)
    have e2 : ((gt a i).2.length : Int) = (gt b i).2.length := Classical.byContradiction fun c => t (.inr c)
    have hf : (gt a i).2.length ≤ 140737488351232 := (h2 _ (gt_mem h0 r)).2
    refine ⟨fun x => 0 ≤ x ∧ x ≤ (gt a i).2.length ∧ ∀ j : Int, 0 ≤ j → j < x → gt (gt a i).2 j = gt (gt b i).2 j, fun x => ((gt a i).2.length - x).toNat, ⟨by omega, by omega, fun j h1 h2 => by omega⟩, fun x ⟨x0, x1, x2⟩ => ?_⟩
    dsimp only
    refine ⟨fun r' => ⟨h0, r, x0, r', h0, by omega, x0, by omega, fun t e => t (by rw [e]), fun t => ⟨by omega, ⟨by omega, by omega, fun j j0 j1 => ?_⟩, by omega⟩⟩, fun r' => ⟨by omega, ⟨by omega, by omega, fun j j0 j1 => ?_⟩, by omega⟩⟩
    · by_cases e : j = x
      · rw [e]; exact Classical.byContradiction t
      · exact x2 j j0 (by omega)
    · by_cases e : j = i
      · rw [e]
        exact Prod.ext e1 (ext_gt (by omega) fun k k0 k1 => x2 k k0 (by omega))
      · exact hj j j0 (by omega)
  · exact ext_gt (by omega) fun j j0 j1 => hj j j0 (by omega)

theorem law_WordsAlls_hC : Cons Try.prog [(f_words_All, words_All_ct), (f_ref_WordsAll, ref_WordsAll_ct), (f_ref_SameWords, ref_SameWords_ct)] := ⟨words_All_con, ref_WordsAll_con, ref_SameWords_con, trivial⟩
theorem law_WordsAlls_con : Con Try.prog f_law_WordsAlls law_WordsAlls_ct := law_WordsAlls_vc law_WordsAlls_hC fun s h => by
  have := wordsAll_fit (s := s)
  exact ⟨h, h, ⟨this, this⟩, by simp⟩

end Go.Proofs.Ytmpmlnjiolbplaa
