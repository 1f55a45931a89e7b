/- The contracts of the functions that the law reaches, and that of the law. Conditions: none. -/
import Derived.Test.YtmknkkafindicaaWMarksMoves
set_option linter.unusedVariables false
set_option linter.unusedSimpArgs false
set_option maxRecDepth 100000
namespace Go.Proofs.Ytmknkkafindicaa
open Go.Vc Go.Fu

theorem edit_Check_hC : Cons Try.prog [] := trivial
theorem edit_Check_con : Con Try.prog f_edit_Check edit_Check_ct := edit_Check_vc edit_Check_hC fun size e ⟨h1, h2, h3, h4⟩ => (by
  simp only [inI_iff, fitS, editFault] at *
  refine ⟨fun h => by omega, fun h => ?_, fun h => ⟨by omega, by omega, fun g => ?_, fun g => ?_⟩⟩
  · rw [if_pos (by omega)]
  · rw [if_neg (by omega), if_pos (by omega)]
  · rw [if_neg (by omega), if_neg (by omega)])

theorem edit_Moved_hC : Cons Try.prog [] := trivial
theorem edit_Moved_con : Con Try.prog f_edit_Moved edit_Moved_ct := edit_Moved_vc edit_Moved_hC fun e at_ right h => by
  simp only [inI_iff, movedPre, fitS, moved] at *
  refine ⟨fun q => by rw [if_pos q], fun q => ⟨fun _ _ => by omega, fun r => ⟨by omega, by omega, by rw [if_neg q, if_pos r]⟩, fun r => ⟨fun t => ⟨by omega, by rw [if_neg q, if_neg r, if_pos t]⟩, fun t => by rw [if_neg q, if_neg r, if_neg t]⟩⟩⟩

theorem slices_Clone___api_Mark_api_Mark__hC : Cons Try.prog [] := trivial
theorem slices_Clone___api_Mark_api_Mark__con : Con Try.prog f_slices_Clone___api_Mark_api_Mark_ slices_Clone___api_Mark_api_Mark__ct := slices_Clone___api_Mark_api_Mark__vc slices_Clone___api_Mark_api_Mark__hC fun s hs nl hn => by
  refine ⟨fun c => ?_, fun c => ⟨by simp only [fitM] at hs; omega, rfl⟩⟩
  have := hn c
  exact (List.length_eq_zero_iff.1 (by omega)).symm

theorem marks_Move_hC : Cons Try.prog [(f_edit_Check, edit_Check_ct), (f_edit_Moved, edit_Moved_ct), (f_slices_Clone___api_Mark_api_Mark_, slices_Clone___api_Mark_api_Mark__ct)] := ⟨edit_Check_con, edit_Moved_con, slices_Clone___api_Mark_api_Mark__con, trivial⟩
theorem marks_Move_con : Con Try.prog f_marks_Move marks_Move_ct := marks_Move_vc marks_Move_hC fun size ms l ⟨hs, hl⟩ => by
  simp only [inI_iff, true_and, and_true, ne_eq, Int.reduceEq, not_false_eq_true, Int.toNat_zero, prod_eta] at *
  refine ⟨fun c => by rw [marksMove_a (by omega)]; exact ⟨rfl, rfl⟩, fun c0 => ?_⟩
  have c : ¬ (60 < ms.length ∨ 60 < l.length) := by omega
  refine ⟨fun x f => 0 ≤ x ∧ x ≤ ms.length ∧ f = size ∧ ∀ j : Int, 0 ≤ j → j < x → 0 ≤ (gt ms j).1 ∧ (gt ms j).1 ≤ size, fun x _ => (ms.length - x).toNat, ⟨by omega, by omega, rfl, fun j a b => by omega⟩, ?_⟩
  rintro x f ⟨h0, h1, h2, h3⟩
  dsimp only
  subst h2
  refine ⟨fun t => ⟨h0, t, fun b => ⟨fun _ => by rw [marksMove_b c h0 t b]; exact ⟨rfl, rfl⟩, fun z => absurd h0 z⟩, fun b => ⟨by omega, ⟨by omega, by omega, rfl, fun j j0 j1 => ?_⟩, by omega⟩⟩, fun t => ⟨fun z => by omega, fun _ => ?_⟩⟩
  · by_cases e : j = x
    · subst e; omega
    · exact h3 j j0 (by omega)
  have hm : marksIn f ms := fun i a b => h3 i a (by omega)
  have zf : editFault f (0, 0, []) = if f < 0 ∨ 600 < f then 2 else 0 := by
    by_cases z : f < 0 ∨ 600 < f
    · rw [if_pos z]; unfold editFault; simp only; rw [if_pos (by omega)]
    · rw [if_neg z]; unfold editFault; simp only [List.length_nil]; rw [if_neg (by omega), if_neg (by omega)]
  refine ⟨⟨hs, by simp [editFits, inI64, IntKind.min, IntKind.max] <;> decide⟩, fun z => ?_, fun z => ?_⟩
  · rw [zf] at z ⊢
    by_cases y : f < 0 ∨ 600 < f
    · rw [if_pos y, marksMove_c c hm y]; exact ⟨rfl, rfl⟩
    · rw [if_neg y] at z; exact absurd rfl z
  have sz : ¬ (f < 0 ∨ 600 < f) := fun y => by rw [zf, if_pos y] at z; omega
  refine ⟨by simp only [fitM]; omega, fun x n out => 0 ≤ x ∧ x ≤ l.length ∧ 0 ≤ n ∧ n ≤ 600 ∧ editCode f l = editCode n (l.drop x.toNat) ∧ out.length = ms.length ∧ ∀ j : Int, 0 ≤ j → j < ms.length → gt out j = markMoved (gt ms j) (l.take x.toNat) ∧ 0 ≤ (gt out j).1 ∧ (gt out j).1 ≤ n, fun x _ _ => (l.length - x).toNat, ⟨by omega, by omega, by omega, by omega, by simp, rfl, fun j a b => ⟨by simp [markMoved], hm j a b⟩⟩, ?_⟩
  rintro x n out ⟨g0, g1, g2, g3, g4, g5, g6⟩
  dsimp only
  refine ⟨fun t => ?_, fun t => ?_⟩
  · have he := hl _ (gt_mem g0 t)
    refine ⟨g0, t, ⟨by omega, he⟩, fun b => ?_, fun b => ?_⟩
    · rw [marksMove_d c hm sz (editCode_bad g0 t g4 b) b]; exact ⟨rfl, rfl⟩
    · have hb : editFault n (gt l x) = 0 := Classical.byContradiction b
      have mb := editMay_iff.1 hb
      have nx := editCode_next g0 t g4 hb
      have en : n + (((gt l x).2.2.length : Int) - (gt l x).2.1) = n - (gt l x).2.1 + (gt l x).2.2.length := by omega
      simp only [en]
      refine ⟨by omega, by omega, fun y o1 => 0 ≤ y ∧ y ≤ ms.length ∧ o1.length = ms.length ∧ ∀ j : Int, 0 ≤ j → j < ms.length → (j < y → gt o1 j = markMoved (gt ms j) (l.take (x + 1).toNat) ∧ 0 ≤ (gt o1 j).1 ∧ (gt o1 j).1 ≤ n - (gt l x).2.1 + (gt l x).2.2.length) ∧ (y ≤ j → gt o1 j = gt out j), fun y _ => (ms.length - y).toNat, ⟨by omega, by omega, g5, fun j a b => ⟨fun c => by omega, fun _ => rfl⟩⟩, ?_⟩
      rintro y o1 ⟨k0, k1, k2, k3⟩
      dsimp only
      refine ⟨fun u => ?_, fun u => ⟨by omega, ⟨by omega, by omega, by omega, by omega, nx, k2, fun j a b => (k3 j a b).1 (by omega)⟩, by omega⟩⟩
      have e1 := (k3 y k0 (by omega)).2 (by omega)
      obtain ⟨e2, e3, e4⟩ := g6 y k0 (by omega)
      rw [e1]
      refine ⟨k0, by omega, k0, by omega, ⟨by omega, by omega, by omega, by omega, by simp only [fitS]; omega, by omega, by omega⟩, k0, by omega, by omega, ⟨by omega, by omega, by simp; omega, fun j a b => ?_⟩, by omega⟩
      by_cases e : j = y
      · subst e
        rw [gt_set_eq a (by omega)]
        refine ⟨fun _ => ⟨?_, moved_in hb e3 e4 _⟩, fun c => by omega⟩
        rw [markMoved_succ g0 t, e2]
      · rw [gt_set_ne k0 a (fun z => e z.symm)]
        exact ⟨fun c => (k3 j a b).1 (by omega), fun c => (k3 j a b).2 (by omega)⟩
  · rw [marksMove_e c hm sz (editCode_end (by omega) g4)]
    refine ⟨ext_gt (by simp; omega) fun j a b => ?_, rfl⟩
    rw [(g6 j a (by omega)).1, gt_map a (by omega), List.take_of_length_le (by omega)]

theorem ref_EditFault_hC : Cons Try.prog [] := trivial
theorem ref_EditFault_con : Con Try.prog f_ref_EditFault ref_EditFault_ct := ref_EditFault_vc ref_EditFault_hC fun size e ⟨h1, h2, h3, h4⟩ => (by
  simp only [inI_iff, fitS, editFault] at *
  refine ⟨fun h => by omega, fun h => ?_, fun h => ⟨by omega, by omega, fun g => ?_, fun g => ?_⟩⟩
  · rw [if_pos (by omega)]
  · rw [if_neg (by omega), if_pos (by omega)]
  · rw [if_neg (by omega), if_neg (by omega)])

theorem ref_editPlace_hC : Cons Try.prog [] := trivial
theorem ref_editPlace_con : Con Try.prog f_ref_editPlace ref_editPlace_ct := ref_editPlace_vc ref_editPlace_hC fun e at_ right h => by
  simp only [inI_iff, movedPre, fitS, moved] at *
  refine ⟨fun q => by rw [if_pos q], fun q => ⟨by omega, fun r => ⟨by omega, by omega, ?_⟩, fun r => ⟨fun t => ⟨by omega, ?_⟩, fun t => ?_⟩⟩⟩
  · rw [if_neg q, if_pos (by omega)]; omega
  · rw [if_neg q, if_neg (by omega), if_pos t]
  · rw [if_neg q, if_neg (by omega), if_neg t]

theorem ref_MarksMoved_hC : Cons Try.prog [(f_ref_EditFault, ref_EditFault_ct), (f_ref_editPlace, ref_editPlace_ct)] := ⟨ref_EditFault_con, ref_editPlace_con, trivial⟩
theorem ref_MarksMoved_con : Con Try.prog f_ref_MarksMoved ref_MarksMoved_ct := ref_MarksMoved_vc ref_MarksMoved_hC fun size ms l ⟨hs, hl⟩ => by
  simp only [inI_iff, true_and, and_true, ne_eq, Int.reduceEq, not_false_eq_true, Int.toNat_zero, prod_eta] at *
  refine ⟨fun c => by rw [marksMove_a (by omega)]; exact ⟨rfl, rfl⟩, fun c0 => ?_⟩
  have c : ¬ (60 < ms.length ∨ 60 < l.length) := by omega
  refine ⟨fun x => 0 ≤ x ∧ x ≤ ms.length ∧ ∀ j : Int, 0 ≤ j → j < x → 0 ≤ (gt ms j).1 ∧ (gt ms j).1 ≤ size, fun x => (ms.length - x).toNat, ⟨by omega, by omega, fun j a b => by omega⟩, ?_⟩
  rintro x ⟨h0, h1, h3⟩
  dsimp only
  refine ⟨fun t => ⟨h0, t, fun b => by rw [marksMove_b c h0 t b]; exact ⟨rfl, rfl⟩, fun b => ⟨by omega, ⟨by omega, by omega, fun j j0 j1 => ?_⟩, by omega⟩⟩, fun t => ?_⟩
  · by_cases e : j = x
    · subst e; omega
    · exact h3 j j0 (by omega)
  have hm : marksIn size ms := fun i a b => h3 i a (by omega)
  refine ⟨fun y => by rw [marksMove_c c hm y]; exact ⟨rfl, rfl⟩, fun sz => ?_⟩
  refine ⟨fun n x => 0 ≤ x ∧ x ≤ l.length ∧ 0 ≤ n ∧ n ≤ 600 ∧ editCode size l = editCode n (l.drop x.toNat) ∧ n = sizeAt size (l.take x.toNat) ∧ ∀ j : Int, 0 ≤ j → j < x → editFault (sizeAt size (l.take j.toNat)) (gt l j) = 0, fun _ x => (l.length - x).toNat, ⟨by omega, by omega, by omega, by omega, by simp, by simp [sizeAt], fun j a b => by omega⟩, ?_⟩
  rintro n x ⟨g0, g1, g2, g3, g4, g5, g6⟩
  dsimp only
  refine ⟨fun t => ?_, fun t => ?_⟩
  · have he := hl _ (gt_mem g0 t)
    refine ⟨g0, t, ⟨by omega, he⟩, fun b => ?_, fun b => ?_⟩
    · rw [marksMove_d c hm sz (editCode_bad g0 t g4 b) b]; exact ⟨rfl, rfl⟩
    · have hb : editFault n (gt l x) = 0 := Classical.byContradiction b
      have mb := editMay_iff.1 hb
      refine ⟨by omega, by omega, by omega, ⟨by omega, by omega, by omega, by omega, editCode_next g0 t g4 hb, ?_, fun j a b => ?_⟩, by omega⟩
      · rw [sizeAt_succ g0 t, ← g5]
      · by_cases e : j = x
        · subst e; rw [← g5]; exact hb
        · exact g6 j a (by omega)
  · have ec := editCode_end (by omega) g4
    refine ⟨fun x out => 0 ≤ x ∧ x ≤ ms.length ∧ out.length = x ∧ ∀ j : Int, 0 ≤ j → j < x → gt out j = markMoved (gt ms j) l, fun x _ => (ms.length - x).toNat, ⟨by omega, by omega, rfl, fun j a b => by omega⟩, ?_⟩
    rintro x out ⟨k0, k1, k2, k3⟩
    dsimp only
    refine ⟨fun u => ⟨k0, u, fun y at_ r => 0 ≤ y ∧ y ≤ l.length ∧ (at_, r) = markMoved (gt ms x) (l.take y.toNat) ∧ 0 ≤ at_ ∧ at_ ≤ sizeAt size (l.take y.toNat), fun y _ _ => (l.length - y).toNat, ⟨by omega, by omega, by simp [markMoved], ?_⟩, ?_⟩, fun u => ?_⟩
    · have := hm x k0 u
      simp [sizeAt]; omega
    · rintro y at_ r ⟨p0, p1, p2, p3, p4⟩
      dsimp only
      refine ⟨fun v => ?_, fun v => ?_⟩
      · have hb := g6 y p0 (by omega)
        have mb := editMay_iff.1 hb
        have mv := moved_in hb p3 p4 r
        refine ⟨p0, v, ⟨by omega, by omega, by omega, by omega, by simp only [fitS]; omega, by omega, by omega⟩, by omega, ⟨by omega, by omega, ?_, mv.1, by rw [sizeAt_succ p0 v]; exact mv.2⟩, by omega⟩
        rw [markMoved_succ p0 v, ← p2]
      · refine ⟨by omega, by omega, ⟨by omega, by omega, by simp; omega, fun j a b => ?_⟩, by omega⟩
        by_cases e : j = x
        · subst e
          rw [show gt (out ++ [(at_, r)]) j = (at_, r) by rw [← k2]; exact gt_append_last, p2, List.take_of_length_le (by omega)]
        · rw [gt_append_l a (by omega)]; exact k3 j a (by omega)
    · rw [marksMove_e c hm sz ec]
      refine ⟨ext_gt (by simp; omega) fun j a b => ?_, rfl⟩
      rw [k3 j a (by omega), gt_map a (by omega)]

theorem law_MarksMoves_hC : Cons Try.prog [(f_marks_Move, marks_Move_ct), (f_ref_MarksMoved, ref_MarksMoved_ct)] := ⟨marks_Move_con, ref_MarksMoved_con, trivial⟩
theorem law_MarksMoves_con : Con Try.prog f_law_MarksMoves law_MarksMoves_ct := law_MarksMoves_vc law_MarksMoves_hC fun size ms l ⟨h1, h2, h3, h4⟩ => by
  have hl := marksMove_len size ms l
  have hf : editsFit l := fun e he => ⟨(h4 e he).1, (h4 e he).2.1, (h4 e he).2.2⟩
  refine ⟨⟨h1, hf⟩, ⟨h1, hf⟩, ?_⟩
  simp only [inI_iff, true_and, and_true, ne_eq, Int.reduceEq, not_false_eq_true, Int.toNat_zero]
  refine ⟨fun c => by simp at c, fun _ => ⟨fun i => 0 ≤ i ∧ i ≤ (marksMove size ms l).1.length, fun i => ((marksMove size ms l).1.length - i).toNat, by omega, ?_⟩⟩
  rintro i ⟨h0, h1⟩
  dsimp only
  exact ⟨fun t => ⟨h0, t, h0, t, fun c => absurd trivial c, fun _ => ⟨by omega, ⟨by omega, by omega⟩, by omega⟩⟩, fun _ => trivial⟩

end Go.Proofs.Ytmknkkafindicaa
