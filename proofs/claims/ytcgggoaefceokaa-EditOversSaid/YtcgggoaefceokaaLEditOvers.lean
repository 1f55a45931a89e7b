/- The contracts of the functions that the law reaches, and that of the law. Conditions: none. -/
import Derived.Test.YtcgggoaefceokaaWEditOvers
set_option linter.unusedVariables false
set_option linter.unusedSimpArgs false
set_option maxRecDepth 100000
namespace Go.Proofs.Ytcgggoaefceokaa
open Go.Vc Go.Fu

theorem edit_Check_hC : Cons Try.prog [] := trivial
theorem edit_Check_con : Con Try.prog f_edit_Check edit_Check_ct := edit_Check_vc edit_Check_hC fun size e ⟨h1, h2, h3, h4⟩ => (by
  simp only [inI_iff, fitS, editFault] at *
  refine ⟨fun h => by omega, fun h => ?_, fun h => ⟨by omega, by omega, fun g => ?_, fun g => ?_⟩⟩
  · rw [if_pos (by omega)]
  · rw [if_neg (by omega), if_pos (by omega)]
  · rw [if_neg (by omega), if_neg (by omega)])

theorem edit_nothing_hC : Cons Try.prog [] := trivial
theorem edit_nothing_con : Con Try.prog f_edit_nothing edit_nothing_ct := edit_nothing_vc edit_nothing_hC fun e _ => rfl

theorem edit_within_hC : Cons Try.prog [] := trivial
theorem edit_within_con : Con Try.prog f_edit_within edit_within_ct := edit_within_vc edit_within_hC fun a b h => ⟨fun _ => h, bo_congr (and_assoc)⟩

theorem edit_clash_hC : Cons Try.prog [(f_edit_nothing, edit_nothing_ct), (f_edit_within, edit_within_ct)] := ⟨edit_nothing_con, edit_within_con, trivial⟩
theorem edit_clash_con : Con Try.prog f_edit_clash edit_clash_ct := edit_clash_vc edit_clash_hC fun a b h => by
  have e1 : editNothing (a.1, a.2.1, a.2.2) = editNothing a := rfl
  have e2 : editNothing (b.1, b.2.1, b.2.2) = editNothing b := rfl
  have e3 : editWithin (a.1, a.2.1, a.2.2) (b.1, b.2.1, b.2.2) = editWithin a b := rfl
  have e4 : editWithin (b.1, b.2.1, b.2.2) (a.1, a.2.1, a.2.2) = editWithin b a := rfl
  simp only [e1, e2, e3, e4, bo_true, false_bo, bo_eq_bo]
  refine ⟨trivial, fun _ => trivial, fun g => ?_, fun g => ⟨h.1, h.2, fun _ => h.2, fun _ => h.1, ?_⟩⟩
  · intro c
    rcases g with g | g
    · exact c.1 g
    · exact c.2.1 g
  · unfold editClash
    constructor
    · intro c; exact ⟨fun x => g (.inl x), fun x => g (.inr x), by rcases c with (c | c) | c; exact .inl c; exact .inr (.inl c); exact .inr (.inr c)⟩
    · rintro ⟨_, _, c⟩
      rcases c with c | c | c
      · exact .inl (.inl c)
      · exact .inl (.inr c)
      · exact .inr c

theorem edit_Moved_hC : Cons Try.prog [] := trivial
theorem edit_Moved_con : Con Try.prog f_edit_Moved edit_Moved_ct := edit_Moved_vc edit_Moved_hC fun e at_ right h => by
  simp only [inI_iff, movedPre, fitS, moved] at *
  refine ⟨fun q => by rw [if_pos q], fun q => ⟨fun _ _ => by omega, fun r => ⟨by omega, by omega, by rw [if_neg q, if_pos r]⟩, fun r => ⟨fun t => ⟨by omega, by rw [if_neg q, if_neg r, if_pos t]⟩, fun t => by rw [if_neg q, if_neg r, if_neg t]⟩⟩⟩

theorem edit_Over_hC : Cons Try.prog [(f_edit_Check, edit_Check_ct), (f_edit_clash, edit_clash_ct), (f_edit_Moved, edit_Moved_ct)] := ⟨edit_Check_con, edit_clash_con, edit_Moved_con, trivial⟩
theorem edit_Over_con : Con Try.prog f_edit_Over edit_Over_ct := edit_Over_vc edit_Over_hC fun size a b ⟨hs, ha, hb⟩ => by
  simp only [prod_eta, bo_true, inI_iff, true_and, and_true, ne_eq, Int.reduceEq, not_false_eq_true, Int.toNat_zero, Int.natCast_eq_zero, Int.cast_ofNat_Int]
  refine ⟨fun x _ _ _ => 0 ≤ x ∧ x ≤ 2 ∧ (0 < x → editFault size a = 0) ∧ (1 < x → editFault size b = 0), fun x _ _ _ => (2 - x).toNat, by omega, ?_⟩
  rintro x o o1 o2 ⟨h0, h1, h2, h3⟩
  dsimp only
  refine ⟨fun t => ?_, fun t => ?_⟩
  · have : x = 0 ∨ x = 1 := by omega
    rcases this with rfl | rfl
    · simp only [iteP_pos trivial, iteP_pos (show (0 : Int) = 0 from rfl), prod_eta]
      refine ⟨by omega, by omega, ⟨hs, ha⟩, fun q => ?_, fun q => ⟨by omega, by omega, by omega⟩⟩
      rw [editOver_a q]; exact ⟨rfl, rfl⟩
    · simp only [iteP_neg (show ¬ False from id), iteP_neg (show ¬ (1 : Int) = 0 by omega), prod_eta, Int.reduceEq]
      refine ⟨by omega, by omega, ⟨hs, hb⟩, fun q => ?_, fun q => ⟨by omega, by omega, by omega⟩⟩
      rw [editOver_b (h2 (by omega)) q]; exact ⟨rfl, rfl⟩
  · have e1 := h2 (by omega)
    have e2 := h3 (by omega)
    have m1 := editMay_iff.1 e1
    have m2 := editMay_iff.1 e2
    refine ⟨⟨by simp only [endFits, inI_iff]; omega, by simp only [endFits, inI_iff]; omega⟩, fun q => ?_, fun q => ⟨⟨by omega, by omega, by omega, by omega, by simp only [fitS]; omega, by omega, by omega⟩, by omega, by omega, ?_⟩⟩
    · rw [editOver_c e1 e2 q]; exact ⟨rfl, rfl⟩
    · exact over_tail ha e1 e2 q (by rw [less_iff (a := a.2.2)]) rfl

theorem ref_EditFault_hC : Cons Try.prog [] := trivial
theorem ref_EditFault_con : Con Try.prog f_ref_EditFault ref_EditFault_ct := ref_EditFault_vc ref_EditFault_hC fun size e ⟨h1, h2, h3, h4⟩ => (by
  simp only [inI_iff, fitS, editFault] at *
  refine ⟨fun h => by omega, fun h => ?_, fun h => ⟨by omega, by omega, fun g => ?_, fun g => ?_⟩⟩
  · rw [if_pos (by omega)]
  · rw [if_neg (by omega), if_pos (by omega)]
  · rw [if_neg (by omega), if_neg (by omega)])

theorem ref_editPlace_hC : Cons Try.prog [] := trivial
theorem ref_editPlace_con : Con Try.prog f_ref_editPlace ref_editPlace_ct := ref_editPlace_vc ref_editPlace_hC fun e at_ right h => by
  simp only [inI_iff, movedPre, fitS, moved] at *
  refine ⟨fun q => by rw [if_pos q], fun q => ⟨by omega, fun r => ⟨by omega, by omega, ?_⟩, fun r => ⟨fun t => ⟨by omega, ?_⟩, fun t => ?_⟩⟩⟩
  · rw [if_neg q, if_pos (by omega)]; omega
  · rw [if_neg q, if_neg (by omega), if_pos t]
  · rw [if_neg q, if_neg (by omega), if_neg t]

theorem ref_EditOver_1_hC : Cons Try.prog [] := trivial
theorem ref_EditOver_1_con : Con Try.prog f_ref_EditOver_1 ref_EditOver_1_ct := ref_EditOver_1_vc ref_EditOver_1_hC fun x _ => rfl

theorem ref_EditOver_2_hC : Cons Try.prog [] := trivial
theorem ref_EditOver_2_con : Con Try.prog f_ref_EditOver_2 ref_EditOver_2_ct := ref_EditOver_2_vc ref_EditOver_2_hC fun x i h => ⟨fun _ => h, rfl⟩

theorem ref_EditOver_hC : Cons Try.prog [(f_ref_EditFault, ref_EditFault_ct), (f_ref_editPlace, ref_editPlace_ct), (f_ref_EditOver_1, ref_EditOver_1_ct), (f_ref_EditOver_2, ref_EditOver_2_ct)] := ⟨ref_EditFault_con, ref_editPlace_con, ref_EditOver_1_con, ref_EditOver_2_con, trivial⟩
theorem ref_EditOver_con : Con Try.prog f_ref_EditOver ref_EditOver_ct := ref_EditOver_vc ref_EditOver_hC fun size a b ⟨hs, ha, hb⟩ => by
  simp only [prod_eta, bo_true, inI_iff, true_and, and_true, ne_eq, Int.reduceEq, not_false_eq_true, Int.toNat_zero]
  refine ⟨⟨hs, ha⟩, fun _ => ⟨hs, hb⟩, fun q => ?_, fun q => ?_⟩
  · by_cases e : editFault size a = 0
    · rw [iteP_pos e] at q ⊢
      rw [editOver_b e q]; exact ⟨rfl, rfl⟩
    · rw [iteP_neg e]
      rw [editOver_a e]; exact ⟨rfl, rfl⟩
  · have e1 : editFault size a = 0 := by
      by_cases e : editFault size a = 0
      · exact e
      · rw [iteP_neg e] at q; exact absurd e q
    rw [iteP_pos e1] at q
    have e2 : editFault size b = 0 := Classical.byContradiction q
    have m1 := editMay_iff.1 e1
    have m2 := editMay_iff.1 e2
    have tail : ¬ editClash a b → _ := fun c => over_tail (n := size + b.2.2.length - b.2.1) ha e1 e2 c Iff.rfl (by omega)
    have f1 : endFits a := by simp only [endFits, inI_iff]; omega
    have f2 : endFits b := by simp only [endFits, inI_iff]; omega
    have mp : movedPre b a.1 := ⟨by omega, by omega, by omega, by omega, by simp only [fitS]; omega, by omega, by omega⟩
    refine ⟨fun _ => trivial, fun d => ⟨fun i _ _ _ => 0 ≤ i ∧ i ≤ size ∧ ∀ k, 0 ≤ k → k < i → ¬ clashAt a b k, fun i _ _ _ => (size - i).toNat, ⟨by omega, by omega, fun k a b => by omega⟩, ?_⟩, fun d => ⟨mp, by omega, by omega, ?_⟩⟩
    · rintro i o o1 o2 ⟨h0, h1, h2⟩
      dsimp only
      have bad : i < size → clashAt a b i → (0, 0, []) = (editOver size a b).1 ∧ 10 = (editOver size a b).2 := fun t c => by
        rw [editOver_c e1 e2 ((clash_iff e1 e2).2 ⟨d, i, h0, t, c⟩)]; exact ⟨rfl, rfl⟩
      refine ⟨fun t => ⟨f1, fun _ => f2, fun c => bad t (.inl c), fun c => ⟨fun _ => by omega, fun _ => f2, fun _ => f2, fun _ => by omega, fun _ => f1, fun _ => f1, fun g => bad t ?_, fun g => ⟨by omega, ⟨by omega, by omega, fun k k0 k1 => ?_⟩, by omega⟩⟩⟩, fun t => ⟨mp, by omega, by omega, ?_⟩⟩
      · rcases g with ⟨⟨⟨g1, g2⟩, g3⟩, g4⟩ | ⟨⟨⟨g1, g2⟩, g3⟩, g4⟩
        · exact .inr (.inl ⟨g1, g2, g3, g4⟩)
        · exact .inr (.inr ⟨g1, g2, g3, g4⟩)
      · by_cases e : k = i
        · subst e
          rintro (x | ⟨x1, x2, x3, x4⟩ | ⟨x1, x2, x3, x4⟩)
          · exact c x
          · exact g (.inl ⟨⟨⟨x1, x2⟩, x3⟩, x4⟩)
          · exact g (.inr ⟨⟨⟨x1, x2⟩, x3⟩, x4⟩)
        · exact h2 k k0 (by omega)
      · refine tail fun c => ?_
        obtain ⟨_, k, k0, k1, k2⟩ := (clash_iff e1 e2).1 c
        exact h2 k k0 (by omega) k2
    · exact tail fun c => d ((clash_iff e1 e2).1 c).1

theorem law_EditOvers_hC : Cons Try.prog [(f_edit_Over, edit_Over_ct), (f_ref_EditOver, ref_EditOver_ct)] := ⟨edit_Over_con, ref_EditOver_con, trivial⟩
theorem law_EditOvers_con : Con Try.prog f_law_EditOvers law_EditOvers_ct := law_EditOvers_vc law_EditOvers_hC fun size a b h => ⟨⟨h.1, ⟨h.2.1.1, h.2.1.2.1, h.2.1.2.2⟩, h.2.2.1, h.2.2.2.1, h.2.2.2.2⟩, ⟨h.1, ⟨h.2.1.1, h.2.1.2.1, h.2.1.2.2⟩, h.2.2.1, h.2.2.2.1, h.2.2.2.2⟩, by simp⟩

end Go.Proofs.Ytcgggoaefceokaa
