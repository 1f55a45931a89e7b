/- The contracts of the functions that the law reaches, and that of the law. Conditions: none. -/
import Derived.Test.YtcgggoaefceokaaWDiffPatches
set_option linter.unusedVariables false
set_option linter.unusedSimpArgs false
set_option maxRecDepth 100000
namespace Go.Proofs.Ytcgggoaefceokaa
open Go.Vc Go.Fu

theorem diff_Patch_hC : Cons Try.prog [] := trivial
theorem diff_Patch_con : Con Try.prog f_diff_Patch diff_Patch_ct := diff_Patch_vc diff_Patch_hC fun a l news _ => by
  simp only [inI_iff, true_and, and_true, ne_eq, Int.reduceEq, not_false_eq_true, Int.toNat_zero, patchOf, List.drop_zero]
  refine ⟨fun q => by rw [if_pos (by omega)]; exact ⟨rfl, rfl⟩, fun q => ?_⟩
  rw [if_neg (by omega)]
  refine ⟨fun x a' n' out => 0 ≤ x ∧ x ≤ l.length ∧ a'.length ≤ 80 ∧ n'.length ≤ 80 ∧ out.length + a'.length + n'.length ≤ 160 ∧ patchGo [] a news l = patchGo out a' n' (l.drop x.toNat), fun x _ _ _ => (l.length - x).toNat, ⟨by omega, by omega, by omega, by omega, by simp; omega, by simp⟩, ?_⟩
  rintro x a' n' out ⟨h0, h1, h2, h3, h4, h5⟩
  dsimp only
  have et : ∀ l : List Bytes, List.take ((l.length : Int)).toNat l = l := fun l => List.take_of_length_le (by omega)
  simp only [et]
  refine ⟨fun t => ⟨h0, t, ?_⟩, fun t => ?_⟩
  · rw [drop_gt h0 t] at h5
    generalize gt l x = st at *
    simp only [patchGo] at h5
    refine ⟨fun u => ?_, fun u => ⟨fun v => ?_, fun v => ⟨fun k => ⟨fun c => ?_, fun c => ⟨fun z => ?_, fun z => ?_⟩⟩, fun k => ⟨fun c => ?_, fun c => ⟨fun z => ?_, fun z => ?_⟩⟩⟩⟩⟩
    · rw [if_pos u] at h5; rw [h5]; exact ⟨rfl, rfl⟩
    · rw [if_neg u, if_pos v] at h5; rw [h5]; exact ⟨rfl, rfl⟩
    · rw [if_neg u, if_neg v, if_pos k, if_pos c] at h5; rw [h5]; exact ⟨rfl, rfl⟩
    · rw [if_neg u, if_neg v, if_pos k, if_neg c] at h5
      refine ⟨by omega, by omega, by omega, by simp only [List.length_take]; omega, by omega, by omega, by omega, by omega, ⟨by omega, by omega, by omega, by simp only [List.length_drop]; omega, by simp only [List.length_append, List.length_take, List.length_drop]; omega, h5⟩, by omega⟩
    · omega
    · rw [if_neg u, if_neg v, if_neg k, if_pos c] at h5; rw [h5]; exact ⟨rfl, rfl⟩
    · rw [if_neg u, if_neg v, if_neg k, if_neg c, if_neg z] at h5
      refine ⟨by omega, by omega, by omega, by simp only [List.length_take]; omega, by omega, by omega, by omega, by omega, ⟨by omega, by omega, by simp only [List.length_drop]; omega, by omega, by simp only [List.length_append, List.length_take, List.length_drop]; omega, h5⟩, by omega⟩
    · rw [if_neg u, if_neg v, if_neg k, if_neg c, if_pos (by omega)] at h5
      refine ⟨by omega, by omega, by omega, by omega, ⟨by omega, by omega, by simp only [List.length_drop]; omega, by omega, by simp only [List.length_drop]; omega, h5⟩, by omega⟩
  · rw [List.drop_of_length_le (by omega)] at h5
    simp only [patchGo] at h5
    rw [h5]
    refine ⟨fun u => ?_, fun u => ?_⟩
    · rw [if_neg]
      · exact ⟨rfl, rfl⟩
      · rintro ⟨rfl, rfl⟩; simp at u
    · have e1 : a' = [] := List.length_eq_zero_iff.1 (by omega)
      have e2 : n' = [] := List.length_eq_zero_iff.1 (by omega)
      rw [if_pos ⟨e1, e2⟩]; exact ⟨rfl, rfl⟩

theorem ref_DiffPatch_hC : Cons Try.prog [] := trivial
theorem ref_DiffPatch_con : Con Try.prog f_ref_DiffPatch ref_DiffPatch_ct := ref_DiffPatch_vc ref_DiffPatch_hC fun a l news _ => by
  simp only [inI_iff, true_and, and_true, ne_eq, Int.reduceEq, not_false_eq_true, Int.toNat_zero, patchOf]
  refine ⟨fun q => by rw [if_pos (by omega)]; exact ⟨rfl, rfl⟩, fun q => ?_⟩
  rw [if_neg (by omega)]
  refine ⟨fun i k x out => 0 ≤ x ∧ x ≤ l.length ∧ 0 ≤ i ∧ i ≤ a.length ∧ 0 ≤ k ∧ k ≤ news.length ∧ out.length ≤ i + k ∧ patchGo [] a news l = patchGo out (a.drop i.toNat) (news.drop k.toNat) (l.drop x.toNat), fun _ _ x _ => (l.length - x).toNat, ⟨by omega, by omega, by omega, by omega, by omega, by omega, by simp, by simp⟩, ?_⟩
  rintro i k x out ⟨h0, h1, h2, h3, h4, h6, h7, h5⟩
  dsimp only
  refine ⟨fun t => ⟨h0, t, ?_⟩, fun t => ?_⟩
  · rw [drop_gt h0 t] at h5
    generalize gt l x = st at *
    simp only [patchGo] at h5
    refine ⟨fun u => ?_, fun u => ⟨fun v => ?_, fun v => ?_⟩⟩
    · rw [if_pos (by omega)] at h5; rw [h5]; exact ⟨rfl, rfl⟩
    · rw [if_neg (by omega), if_pos v] at h5; rw [h5]; exact ⟨rfl, rfl⟩
    · rw [if_neg (by omega), if_neg v] at h5
      refine ⟨fun i' k' n o => 0 ≤ n ∧ n ≤ st.2 ∧ (st.1 = 3 → i' = i ∧ k' = k + n ∧ k' ≤ news.length ∧ o = out ++ (news.drop k.toNat).take n.toNat) ∧ (st.1 ≠ 3 → k' = k ∧ i' = i + n ∧ i' ≤ a.length ∧ o = if st.1 = 2 then out else out ++ (a.drop i.toNat).take n.toNat), fun _ _ n _ => (st.2 - n).toNat, ⟨by omega, by omega, fun c => ⟨rfl, by omega, by omega, by simp⟩, fun c => ⟨rfl, by omega, by omega, by simp⟩⟩, ?_⟩
      rintro i' k' n o ⟨g0, g1, g2, g3⟩
      dsimp only
      have tk : ∀ (L : List Bytes) (p : Int), 0 ≤ p → p + n < L.length → (L.drop p.toNat).take (n + 1).toNat = (L.drop p.toNat).take n.toNat ++ [gt L (p + n)] := fun L p p0 p1 => by
        rw [take_gt g0 (by simp only [List.length_drop]; omega), gt_drop g0]
        congr 3; omega
      refine ⟨fun c => ⟨fun e => ?_, fun e => ⟨fun k1 => ?_, fun k1 => ⟨fun k2 => ?_, fun k2 => ?_⟩⟩⟩, fun c => ?_⟩
      · rcases e with ⟨e1, e2⟩ | ⟨e1, e2⟩
        · have := g2 e1
          rw [if_pos e1, if_pos (by simp only [List.length_drop]; omega)] at h5; rw [h5]; exact ⟨rfl, rfl⟩
        · have := g3 e1
          rw [if_neg e1, if_pos (by simp only [List.length_drop]; omega)] at h5; rw [h5]; exact ⟨rfl, rfl⟩
      · obtain ⟨q1, q2, q3, q4⟩ := g3 (by omega)
        have hi : i' < a.length := by omega
        rw [if_neg (by omega)] at q4
        have hl : o.length ≤ 160 := by rw [q4]; simp only [List.length_append, List.length_take, List.length_drop]; omega
        refine ⟨by omega, hi, by omega, by omega, by omega, ⟨by omega, by omega, fun c' => by omega, fun _ => ⟨q1, by omega, by omega, ?_⟩⟩, by omega⟩
        rw [if_neg (by omega), tk a i h2 (by omega), q4, q2, List.append_assoc]
      · obtain ⟨q1, q2, q3, q4⟩ := g3 (by omega)
        refine ⟨by omega, by omega, ⟨by omega, by omega, fun c' => by omega, fun _ => ⟨q1, by omega, by omega, ?_⟩⟩, by omega⟩
        rw [if_pos k2] at q4 ⊢
        exact q4
      · have e3 : st.1 = 3 := by omega
        obtain ⟨q1, q2, q3, q4⟩ := g2 e3
        have hk : k' < news.length := by omega
        have hl : o.length ≤ 160 := by rw [q4]; simp only [List.length_append, List.length_take, List.length_drop]; omega
        refine ⟨by omega, hk, by omega, by omega, by omega, ⟨by omega, by omega, fun _ => ⟨q1, by omega, by omega, ?_⟩, fun c' => by omega⟩, by omega⟩
        rw [tk news k h4 (by omega), q4, q2, List.append_assoc]
      · have en : n = st.2 := by omega
        subst en
        refine ⟨by omega, ⟨by omega, by omega, ?_⟩, by omega⟩
        by_cases e3 : st.1 = 3
        · obtain ⟨q1, q2, q3, q4⟩ := g2 e3
          rw [if_pos e3, if_neg (by simp only [List.length_drop]; omega), List.drop_drop] at h5
          refine ⟨by omega, by omega, by omega, by omega, by rw [q4]; simp only [List.length_append, List.length_take, List.length_drop]; omega, ?_⟩
          rw [h5, ← q4, q1, q2]; congr 2; omega
        · obtain ⟨q1, q2, q3, q4⟩ := g3 e3
          rw [if_neg e3, if_neg (by simp only [List.length_drop]; omega), List.drop_drop] at h5
          refine ⟨by omega, by omega, by omega, by omega, ?_, ?_⟩
          · rw [q4]; split <;> (try simp only [List.length_append, List.length_take, List.length_drop]) <;> omega
          · rw [h5, ← q4, q1, q2]; congr 2; omega
  · rw [List.drop_of_length_le (l := l) (by omega)] at h5
    simp only [patchGo] at h5
    rw [h5]
    refine ⟨fun u => ?_, fun u => ?_⟩
    · rw [if_neg]
      · exact ⟨rfl, rfl⟩
      · rintro ⟨e1, e2⟩
        have := congrArg List.length e1
        have := congrArg List.length e2
        simp only [List.length_drop, List.length_nil] at *
        omega
    · rw [if_pos ⟨List.drop_of_length_le (by omega), List.drop_of_length_le (by omega)⟩]; exact ⟨rfl, rfl⟩

theorem law_sameTexts_hC : Cons Try.prog [] := trivial
theorem law_sameTexts_con : Con Try.prog f_law_sameTexts law_sameTexts_ct := law_sameTexts_vc law_sameTexts_hC fun a b h => by
  simp only [inI_iff, true_and, and_true, ne_eq, Int.reduceEq, not_false_eq_true, Int.toNat_zero, false_bo, true_bo, fitL] at *
  refine ⟨fun q e => q (by rw [e]), fun q => ⟨fun i => 0 ≤ i ∧ i ≤ a.length ∧ ∀ j : Int, 0 ≤ j → j < i → gt a j = gt b j, fun i => (a.length - i).toNat, ⟨by omega, by omega, fun j h1 h2 => by omega⟩, fun i ⟨h0, h1, h2⟩ => ?_⟩⟩
  dsimp only
  refine ⟨fun r => ⟨h0, r, h0, by omega, fun t e => t (by rw [e]), fun t => ⟨by omega, ⟨by omega, by omega, fun j j0 j1 => ?_⟩, by omega⟩⟩, fun r => ?_⟩
  · by_cases e : j = i
    · rw [e]; exact Classical.byContradiction t
    · exact h2 j j0 (by omega)
  · exact ext_gt (by omega) fun j j0 j1 => h2 j j0 (by omega)

theorem law_DiffPatches_hC : Cons Try.prog [(f_diff_Patch, diff_Patch_ct), (f_ref_DiffPatch, ref_DiffPatch_ct), (f_law_sameTexts, law_sameTexts_ct)] := ⟨diff_Patch_con, ref_DiffPatch_con, law_sameTexts_con, trivial⟩
theorem law_DiffPatches_con : Con Try.prog f_law_DiffPatches law_DiffPatches_ct := law_DiffPatches_vc law_DiffPatches_hC fun a l news _ => by
  have := patchOf_len a l news
  refine ⟨trivial, trivial, ⟨?_, ?_⟩, by simp⟩ <;> simp only [fitL] <;> omega

end Go.Proofs.Ytcgggoaefceokaa
