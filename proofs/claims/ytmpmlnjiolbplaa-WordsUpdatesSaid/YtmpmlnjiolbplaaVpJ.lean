/-
  Edits that are run one after the other.
-/
import Derived.Test.YtmpmlnjiolbplaaVpE
set_option linter.unusedVariables false
set_option linter.unusedSimpArgs false
namespace Go.Fu
open Go.Vc
theorem gt_reverse {α : Type} [Inhabited α] {l : List α} {i : Int} (h0 : 0 ≤ i) (h1 : i < l.length) : gt l.reverse i = gt l (l.length - 1 - i) := by
  rw [gt_in h0 (by simpa using h1), gt_in (by omega) (by omega)]
  simp only [List.getElem_reverse]
  congr 1
  omega
theorem editLast_snoc (e : Edit) : ∀ (l : List Edit) (s : Bytes), editLast s (l ++ [e]) = editMade (editLast s l) e
  | [], s => rfl
  | x :: l, s => by simp only [List.cons_append, editLast]; exact editLast_snoc e l _
theorem editTexts_snoc (e : Edit) : ∀ (l : List Edit) (s : Bytes), editTexts s (l ++ [e]) = editTexts s l ++ [editMade (editLast s l) e]
  | [], s => rfl
  | x :: l, s => by simp only [List.cons_append, editTexts, editLast]; rw [editTexts_snoc e l]
theorem editBacks_snoc (e : Edit) : ∀ (l : List Edit) (s : Bytes), editBacks s (l ++ [e]) = editBacks s l ++ [editUndo (editLast s l) e]
  | [], s => rfl
  | x :: l, s => by simp only [List.cons_append, editBacks, editLast]; rw [editBacks_snoc e l]
theorem editTexts_len : ∀ (l : List Edit) (s : Bytes), (editTexts s l).length = l.length + 1
  | [], s => rfl
  | x :: l, s => by simp only [editTexts, List.length_cons, editTexts_len l]
theorem editBacks_len : ∀ (l : List Edit) (s : Bytes), (editBacks s l).length = l.length
  | [], s => rfl
  | x :: l, s => by simp only [editBacks, List.length_cons, editBacks_len l]
theorem editTexts_gt : ∀ (l : List Edit) (s : Bytes) (i : Int), 0 ≤ i → i ≤ l.length → gt (editTexts s l) i = editLast s (l.take i.toNat)
  | [], s, i, h0, h1 => by
    have : i = 0 := by simp at h1; omega
    subst this; rfl
  | x :: l, s, i, h0, h1 => by
    by_cases e : i = 0
    · subst e; rfl
    · simp only [editTexts]
      rw [gt_cons_pos (by omega), editTexts_gt l _ _ (by omega) (by simp at h1; omega)]
      have : i.toNat = (i - 1).toNat + 1 := by omega
      rw [this, List.take_succ_cons]; rfl
theorem editBacks_gt : ∀ (l : List Edit) (s : Bytes) (i : Int), 0 ≤ i → i < l.length → gt (editBacks s l) i = editUndo (gt (editTexts s l) i) (gt l i)
  | [], s, i, h0, h1 => by simp at h1; omega
  | x :: l, s, i, h0, h1 => by
    by_cases e : i = 0
    · subst e; rfl
    · simp only [editBacks, editTexts]
      rw [gt_cons_pos (by omega), gt_cons_pos (by omega), gt_cons_pos (by omega)]
      exact editBacks_gt l _ _ (by omega) (by simp at h1; omega)
theorem editCode_ok : ∀ (l : List Edit) (s : Bytes), editCode s.length l = 0 → ∀ i : Int, 0 ≤ i → i < l.length → editMay (editLast s (l.take i.toNat)).length (gt l i)
  | [], s, _, i, h0, h1 => by simp at h1; omega
  | x :: l, s, h, i, h0, h1 => by
    simp only [editCode] at h
    split at h
    · omega
    · rename_i hm
      have hm : editMay s.length x := Classical.byContradiction hm
      by_cases e : i = 0
      · subst e; exact hm
      · have : i.toNat = (i - 1).toNat + 1 := by omega
        rw [this, List.take_succ_cons, gt_cons_pos (by omega)]
        rw [← editMade_len hm] at h
        exact editCode_ok l _ h (i - 1) (by omega) (by simp at h1; omega)
theorem editsCode_ok {s : Bytes} {l : List Edit} (h : editsCode s l = 0) : l.length ≤ 60 ∧ s.length ≤ 600 ∧ editCode s.length l = 0 := by
  unfold editsCode at h
  split at h
  · omega
  · exact ⟨by omega, by omega, h⟩
theorem editsCode_big {s : Bytes} {l : List Edit} (h : 60 < l.length ∨ 600 < s.length) : editsCode s l = 1 := by unfold editsCode; rw [if_pos h]
theorem editsCode_small {s : Bytes} {l : List Edit} (h : ¬ (60 < l.length ∨ 600 < s.length)) : editsCode s l = editCode s.length l := by unfold editsCode; rw [if_neg h]
theorem editRun_bad {s : Bytes} {l : List Edit} {c : Int} (h : editsCode s l = c) (hc : c ≠ 0) : editRun s l = ([], [], c) := by
  subst h; unfold editRun; rw [if_neg hc]
theorem editRun_ok {s : Bytes} {l : List Edit} (h : editsCode s l = 0) : editRun s l = (editLast s l, editBacks s l, 0) := by unfold editRun; rw [if_pos h]
theorem editApplied_bad {s : Bytes} {l : List Edit} {c : Int} (h : editsCode s l = c) (hc : c ≠ 0) : editApplied s l = ([], c) := by
  subst h; unfold editApplied; rw [if_neg hc]
theorem editApplied_ok {s : Bytes} {l : List Edit} (h : editsCode s l = 0) : editApplied s l = (editTexts s l, 0) := by unfold editApplied; rw [if_pos h]
end Go.Fu
