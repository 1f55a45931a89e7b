/-
  Marks that go along with edits.
-/
import Derived.Test.YtakkifkpihdcnaaDoorVpJ
set_option linter.unusedVariables false
set_option linter.unusedSimpArgs false
namespace Go.Fu
open Go.Vc
noncomputable section
abbrev Mark := Int × Bool
abbrev fitM {α : Type} (l : List α) : Prop := l.length ≤ 1000000
def slices_Clone___api_Mark_api_Mark__ct : Ct := ⟨tys1 (.sl tMark), [.own tMark], fun l => fitM l, fun l => l⟩
def markMoved (m : Mark) (l : List Edit) : Mark := l.foldl (fun m x => (moved x m.1 m.2, m.2)) m
def marksMove (size : Int) (ms : List Mark) (l : List Edit) : List Mark × Int :=
  open Classical in
  if 60 < ms.length ∨ 60 < l.length then ([], 1)
  else if ∃ m ∈ ms, m.1 < 0 ∨ size < m.1 then ([], 2)
  else if size < 0 ∨ 600 < size then ([], 2)
  else if editCode size l ≠ 0 then ([], editCode size l)
  else (ms.map fun m => markMoved m l, 0)
def marks_Move_ct : Ct := ⟨tys3 tI (.sl tMark) (.sl tEdit), [.own tMark, .val tI], fun x => inI64 x.1 ∧ editsFit x.2.2, fun x => marksMove x.1 x.2.1 x.2.2⟩
def ref_MarksMoved_ct : Ct := marks_Move_ct
theorem markMoved_snoc (m : Mark) (l : List Edit) (x : Edit) : markMoved m (l ++ [x]) = (moved x (markMoved m l).1 (markMoved m l).2, (markMoved m l).2) := by
  simp [markMoved]
theorem markMoved_succ {m : Mark} {l : List Edit} {i : Int} (h0 : 0 ≤ i) (h1 : i < l.length) : markMoved m (l.take (i + 1).toNat) = (moved (gt l i) (markMoved m (l.take i.toNat)).1 (markMoved m (l.take i.toNat)).2, (markMoved m (l.take i.toNat)).2) := by
  rw [take_gt h0 h1, markMoved_snoc]
theorem moved_in {size at_ : Int} {e : Edit} (h : editFault size e = 0) (h0 : 0 ≤ at_) (h1 : at_ ≤ size) (r : Bool) : 0 ≤ moved e at_ r ∧ moved e at_ r ≤ size - e.2.1 + e.2.2.length := by
  have m := editMay_iff.1 h
  unfold moved
  split
  · omega
  · split
    · omega
    · split <;> omega
/-- How great the text is behind the first edits. -/
def sizeAt (size : Int) (l : List Edit) : Int := l.foldl (fun n x => n - x.2.1 + x.2.2.length) size
theorem sizeAt_succ {size : Int} {l : List Edit} {i : Int} (h0 : 0 ≤ i) (h1 : i < l.length) : sizeAt size (l.take (i + 1).toNat) = sizeAt size (l.take i.toNat) - (gt l i).2.1 + (gt l i).2.2.length := by
  rw [take_gt h0 h1]; simp [sizeAt]
theorem editCode_bad {size : Int} {l : List Edit} {i n : Int} (h0 : 0 ≤ i) (h1 : i < l.length) (h : editCode size l = editCode n (l.drop i.toNat)) (hf : editFault n (gt l i) ≠ 0) : editCode size l = editFault n (gt l i) := by
  rw [h, drop_gt h0 h1]
  simp only [editCode]
  rw [if_pos hf]
theorem editCode_next {size : Int} {l : List Edit} {i n : Int} (h0 : 0 ≤ i) (h1 : i < l.length) (h : editCode size l = editCode n (l.drop i.toNat)) (hf : editFault n (gt l i) = 0) : editCode size l = editCode (n - (gt l i).2.1 + (gt l i).2.2.length) (l.drop (i + 1).toNat) := by
  rw [h, drop_gt h0 h1]
  simp only [editCode]
  rw [if_neg (by rw [hf]; simp)]
theorem editCode_end {size : Int} {l : List Edit} {i n : Int} (h1 : (l.length : Int) ≤ i) (h : editCode size l = editCode n (l.drop i.toNat)) : editCode size l = 0 := by
  rw [h, List.drop_of_length_le (by omega)]; rfl
theorem marksMove_a {size : Int} {ms : List Mark} {l : List Edit} (h : 60 < ms.length ∨ 60 < l.length) : marksMove size ms l = ([], 1) := by unfold marksMove; rw [if_pos h]
theorem marksMove_b {size : Int} {ms : List Mark} {l : List Edit} (h : ¬ (60 < ms.length ∨ 60 < l.length)) {i : Int} (h0 : 0 ≤ i) (h1 : i < ms.length) (h2 : (gt ms i).1 < 0 ∨ size < (gt ms i).1) : marksMove size ms l = ([], 2) := by
  unfold marksMove; rw [if_neg h, if_pos ⟨_, gt_mem h0 h1, h2⟩]
def marksIn (size : Int) (ms : List Mark) : Prop := ∀ i : Int, 0 ≤ i → i < ms.length → 0 ≤ (gt ms i).1 ∧ (gt ms i).1 ≤ size
theorem marksIn_not {size : Int} {ms : List Mark} (h : marksIn size ms) : ¬ ∃ m ∈ ms, m.1 < 0 ∨ size < m.1 := by
  rintro ⟨m, hm, c⟩
  obtain ⟨i, a, b, rfl⟩ := mem_gt hm
  have := h i a b
  omega
theorem marksMove_c {size : Int} {ms : List Mark} {l : List Edit} (h : ¬ (60 < ms.length ∨ 60 < l.length)) (hm : marksIn size ms) (h2 : size < 0 ∨ 600 < size) : marksMove size ms l = ([], 2) := by
  unfold marksMove; rw [if_neg h, if_neg (marksIn_not hm), if_pos h2]
theorem marksMove_d {size : Int} {ms : List Mark} {l : List Edit} (h : ¬ (60 < ms.length ∨ 60 < l.length)) (hm : marksIn size ms) (h2 : ¬ (size < 0 ∨ 600 < size)) {c : Int} (h3 : editCode size l = c) (h4 : c ≠ 0) : marksMove size ms l = ([], c) := by
  unfold marksMove; rw [if_neg h, if_neg (marksIn_not hm), if_neg h2, h3, if_pos h4]
theorem marksMove_e {size : Int} {ms : List Mark} {l : List Edit} (h : ¬ (60 < ms.length ∨ 60 < l.length)) (hm : marksIn size ms) (h2 : ¬ (size < 0 ∨ 600 < size)) (h3 : editCode size l = 0) : marksMove size ms l = (ms.map fun m => markMoved m l, 0) := by
  unfold marksMove; rw [if_neg h, if_neg (marksIn_not hm), if_neg h2, h3, if_neg (by simp)]
theorem gt_map {α β : Type} [Inhabited α] [Inhabited β] {f : α → β} {l : List α} {i : Int} (h0 : 0 ≤ i) (h1 : i < l.length) : gt (l.map f) i = f (gt l i) := by
  rw [gt_in h0 (by simp; omega), gt_in h0 h1]; simp
theorem marksMove_len (size : Int) (ms : List Mark) (l : List Edit) : (marksMove size ms l).1.length ≤ 60 := by
  unfold marksMove
  split
  · simp
  · split
    · simp
    · split
      · simp
      · split
        · simp
        · simp; omega
end
end Go.Fu
