/-
  Specifications, second part: words in lines, edits run one after the other, steps of a patch, turns of tasks, lines of places.
-/
import Derived.Test.YtfelfimcnidplaaVpC
set_option linter.unusedVariables false
set_option linter.unusedSimpArgs false
namespace Go.Fu
open Go.Vc
noncomputable section
/-! words in lines -/
def wrapFault (w : List Int) (wide : Int) : Int :=
  if 80 < w.length then 1 else if wide < 1 ∨ 60 < wide ∨ ∃ n ∈ w, n < 1 ∨ wide < n then 2 else 0
def wrap_Check_ct : Ct := ⟨tys2 (.sl tI) tI, [.val tI], fun _ => True, fun x => wrapFault x.1 x.2⟩
def ref_WrapFault_ct : Ct := wrap_Check_ct
def lineWide (w : List Int) : Int := w.sum + w.length - 1
def wideOk (w : List Int) : Prop := w.length ≤ 80 ∧ ∀ n ∈ w, 1 ≤ n ∧ n ≤ 60
def ref_lineWide_ct : Ct := ⟨tys1 (.sl tI), [.val tI], fun w => wideOk w, fun w => lineWide w⟩
def leftPre (w : List Int) (wide : Int) : Prop := wideOk w ∧ 1 ≤ wide ∧ wide ≤ 60
def wrapLeft (w : List Int) (wide : Int) : Int := wide - lineWide w
def wrap_left_ct : Ct := ⟨tys2 (.sl tI) tI, [.val tI], fun x => leftPre x.1 x.2, fun x => wrapLeft x.1 x.2⟩
def greedyOn (wide : Int) : Int → Int → List Int → List Int
  | _, _, [] => []
  | i, free, n :: r => if free - 1 < n then i :: greedyOn wide (i + 1) (wide - n) r else greedyOn wide (i + 1) (free - (n + 1)) r
def greedyAt (wide i : Int) : List Int → List Int
  | [] => []
  | n :: r => i :: greedyOn wide (i + 1) (wide - n) r
def wrapGreedy (w : List Int) (wide : Int) : List Int × Int := if wrapFault w wide = 0 then (greedyAt wide 0 w, 0) else ([], wrapFault w wide)
def wrap_Greedy_ct : Ct := ⟨tys2 (.sl tI) tI, [.own tI, .val tI], fun _ => True, fun x => wrapGreedy x.1 x.2⟩
def ref_WrapGreedy_ct : Ct := wrap_Greedy_ct

theorem wrapFault_ok {w : List Int} {wide : Int} : wrapFault w wide = 0 ↔ w.length ≤ 80 ∧ 1 ≤ wide ∧ wide ≤ 60 ∧ ∀ n ∈ w, 1 ≤ n ∧ n ≤ wide := by
  unfold wrapFault
  constructor
  · intro h
    split at h
    · omega
    · split at h
      · omega
      · rename_i h1 h2
        refine ⟨by omega, by omega, by omega, fun n hn => ?_⟩
        by_cases c : n < 1 ∨ wide < n
        · exact absurd (.inr (.inr ⟨n, hn, c⟩)) h2
        · omega
  · rintro ⟨h1, h2, h3, h4⟩
    rw [if_neg (by omega), if_neg]
    rintro (h | h | ⟨n, hn, h⟩)
    · omega
    · omega
    · have := h4 n hn; omega

/-! edits -/
abbrev Edit := Int × Int × Bytes
def editMade (s : Bytes) (e : Edit) : Bytes := s.take e.1.toNat ++ e.2.2 ++ s.drop (e.1 + e.2.1).toNat
def editUndo (s : Bytes) (e : Edit) : Edit := (e.1, (e.2.2.length : Int), (s.take (e.1 + e.2.1).toNat).drop e.1.toNat)
def editMay (size : Int) (e : Edit) : Prop := editFault size e = 0
theorem editMay_iff {size : Int} {e : Edit} : editMay size e ↔ 0 ≤ size ∧ size ≤ 600 ∧ 0 ≤ e.1 ∧ e.1 ≤ size ∧ 0 ≤ e.2.1 ∧ e.2.1 ≤ size - e.1 ∧ size - e.2.1 + e.2.2.length ≤ 600 := by
  unfold editMay editFault
  constructor
  · intro h
    split at h
    · omega
    · split at h <;> omega
  · intro h
    rw [if_neg (by omega), if_neg (by omega)]
theorem editMade_len {s : Bytes} {e : Edit} (h : editMay s.length e) : ((editMade s e).length : Int) = s.length - e.2.1 + e.2.2.length := by
  rw [editMay_iff] at h
  simp only [editMade, List.length_append, List.length_take, List.length_drop]
  omega
def edit_Made_ct : Ct := ⟨tys2 .str tEdit, [.val .str], fun x => editMay x.1.length x.2, fun x => editMade x.1 x.2⟩
def ref_editMade_ct : Ct := edit_Made_ct
def edit_Undo_ct : Ct := ⟨tys2 .str tEdit, [.val tEdit], fun x => editMay x.1.length x.2, fun x => editUndo x.1 x.2⟩
/-- The text behind each edit, and what undoes each. -/
def editTexts (s : Bytes) : List Edit → List Bytes
  | [] => [s]
  | e :: l => s :: editTexts (editMade s e) l
def editBacks (s : Bytes) : List Edit → List Edit
  | [] => []
  | e :: l => editUndo s e :: editBacks (editMade s e) l
def editLast (s : Bytes) : List Edit → Bytes
  | [] => s
  | e :: l => editLast (editMade s e) l
def editCode (size : Int) : List Edit → Int
  | [] => 0
  | e :: l => if editFault size e ≠ 0 then editFault size e else editCode (size - e.2.1 + e.2.2.length) l
def editsCode (s : Bytes) (l : List Edit) : Int := if 60 < l.length ∨ 600 < s.length then 1 else editCode s.length l
def editRun (s : Bytes) (l : List Edit) : Bytes × List Edit × Int :=
  if editsCode s l = 0 then (editLast s l, editBacks s l, 0) else ([], [], editsCode s l)
def editsFit (l : List Edit) : Prop := ∀ e ∈ l, editFits e
def edit_run_ct : Ct := ⟨tys2 .str (.sl tEdit), [.val .str, .own tEdit, .val tI], fun x => editsFit x.2, fun x => editRun x.1 x.2⟩
def editApply (s : Bytes) (l : List Edit) : Bytes × Int := ((editRun s l).1, (editRun s l).2.2)
def edit_Apply_ct : Ct := ⟨tys2 .str (.sl tEdit), [.val .str, .val tI], fun x => editsFit x.2, fun x => editApply x.1 x.2⟩
def ref_EditApply_ct : Ct := edit_Apply_ct
def editApplied (s : Bytes) (l : List Edit) : List Bytes × Int := if editsCode s l = 0 then (editTexts s l, 0) else ([], editsCode s l)
def ref_EditApplied_ct : Ct := ⟨tys2 .str (.sl tEdit), [.own .str, .val tI], fun x => editsFit x.2, fun x => editApplied x.1 x.2⟩
def editInvert (s : Bytes) (l : List Edit) : List Edit × Int := ((editRun s l).2.1.reverse, (editRun s l).2.2)
def edit_Invert_ct : Ct := ⟨tys2 .str (.sl tEdit), [.own tEdit, .val tI], fun x => editsFit x.2, fun x => editInvert x.1 x.2⟩
def ref_EditInvert_ct : Ct := edit_Invert_ct

/-! one edit over another one -/
def editNothing (e : Edit) : Prop := e.2.1 = 0 ∧ e.2.2 = []
def editWithin (a b : Edit) : Prop := a.2.2 ≠ [] ∧ b.1 < a.1 ∧ a.1 < b.1 + b.2.1
def editClash (a b : Edit) : Prop := ¬ editNothing a ∧ ¬ editNothing b ∧ (max a.1 b.1 < min (a.1 + a.2.1) (b.1 + b.2.1) ∨ editWithin a b ∨ editWithin b a)
def endFits (e : Edit) : Prop := inI64 (e.1 + e.2.1)
def edit_nothing_ct : Ct := ⟨tys1 tEdit, [.val .bool], fun _ => True, fun e => bo (editNothing e)⟩
def edit_within_ct : Ct := ⟨tys2 tEdit tEdit, [.val .bool], fun x => endFits x.2, fun x => bo (editWithin x.1 x.2)⟩
def edit_clash_ct : Ct := ⟨tys2 tEdit tEdit, [.val .bool], fun x => endFits x.1 ∧ endFits x.2, fun x => bo (editClash x.1 x.2)⟩

/-! lines -/
def startsOk (l : List Int) : Prop := l ≠ [] ∧ gt l 0 = 0 ∧ (∀ i, 0 < i → i < (l.length : Int) → gt l (i - 1) < gt l i) ∧ gt l ((l.length : Int) - 1) ≤ 600
def lines_may_ct : Ct := ⟨tys1 (.sl tI), [.val .bool], fun l => fitL l, fun l => bo (startsOk l)⟩
def ref_startsMay_ct : Ct := lines_may_ct
/-- How many stand there that are not above a place. -/
def lineAt (l : List Int) (at_ : Int) : Int := ((l.takeWhile fun x => decide (x ≤ at_)).length : Int) - 1
def linesLine (l : List Int) (at_ : Int) : Int × Int := iteP (¬ startsOk l) (0, 4) (if at_ < 0 then (0, 2) else (lineAt l at_, 0))
def lines_Line_ct : Ct := ⟨tys2 (.sl tI) tI, [.val tI, .val tI], fun x => fitL x.1, fun x => linesLine x.1 x.2⟩
def ref_LinesLine_ct : Ct := lines_Line_ct
end
end Go.Fu
