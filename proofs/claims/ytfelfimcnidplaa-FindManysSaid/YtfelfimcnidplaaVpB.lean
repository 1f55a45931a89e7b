/-
  What functions on places, numbers of texts, edits, marks, spans and lines answer, as plain functions: first part.
-/
import Derived.Test.YtfelfimcnidplaaVpA
set_option linter.unusedVariables false
set_option linter.unusedSimpArgs false
namespace Go.Fu
open Go.Vc
noncomputable section
abbrev tI : Ty := .int .i64
abbrev tHash : Ty := .st (.cons tI (.cons tI .nil))
abbrev tPos : Ty := .st (.cons tI (.cons tI (.cons tI .nil)))
abbrev tSpan : Ty := .st (.cons tI (.cons tI .nil))
abbrev tMark : Ty := .st (.cons tI (.cons .bool .nil))
abbrev tEdit : Ty := .st (.cons tI (.cons tI (.cons .str .nil)))
abbrev tys1 (a : Ty) : Tys := .cons a .nil
abbrev tys2 (a b : Ty) : Tys := .cons a (.cons b .nil)
abbrev tys3 (a b c : Ty) : Tys := .cons a (.cons b (.cons c .nil))
abbrev tys4 (a b c d : Ty) : Tys := .cons a (.cons b (.cons c (.cons d .nil)))
abbrev Bytes := List UInt8
/-- Short enough to be there. -/
abbrev fitS (s : List UInt8) : Prop := s.length ≤ 140737488351232
abbrev fitL {α : Type} (s : List α) : Prop := s.length ≤ 140737488351232

theorem inI_iff {n : Int} : inI64 n ↔ -9223372036854775808 ≤ n ∧ n ≤ 9223372036854775807 := Iff.rfl

/-! numbers of texts -/
def polyOk (h : Int × Int) : Prop := 0 ≤ h.1 ∧ h.1 < 2147483647 ∧ 0 < h.2 ∧ h.2 < 2147483647
instance (h : Int × Int) : Decidable (polyOk h) := by unfold polyOk; infer_instance
def poly_May_ct : Ct := ⟨tys1 tHash, [.val .bool], fun _ => True, fun h => bo (polyOk h)⟩
def ref_PolyMay_ct : Ct := poly_May_ct
def polyJoin (a b : Int × Int) : (Int × Int) × Int :=
  if polyOk a ∧ polyOk b then (((a.1 * b.2 + b.1) % 2147483647, (a.2 * b.2) % 2147483647), 0) else ((0, 0), 4)
def poly_Join_ct : Ct := ⟨tys2 tHash tHash, [.val tHash, .val tI], fun _ => True, fun x => polyJoin x.1 x.2⟩
def ref_PolyJoin_ct : Ct := poly_Join_ct
def polyStep (h : Int × Int) (c : UInt8) : Int × Int := ((h.1 * 257 + c.toNat + 1) % 2147483647, h.2 * 257 % 2147483647)
def polyOf (s : Bytes) : Int × Int := s.foldl polyStep (0, 1)
def poly_Of_ct : Ct := ⟨tys1 .str, [.val tHash], fun s => fitS s, fun s => polyOf s⟩
def ref_PolyOf_ct : Ct := poly_Of_ct

/-! places -/
def posOk (p : Int × Int × Int) : Prop := 0 ≤ p.1 ∧ p.1 ≤ 1099511627776 ∧ 0 ≤ p.2.1 ∧ p.2.1 ≤ 1099511627776 ∧ 0 ≤ p.2.2 ∧ p.2.2 ≤ 1099511627776 ∧ p.2.1 + p.2.2 ≤ p.1 ∧ (0 < p.2.1 ∨ p.2.2 = p.1)
instance (p : Int × Int × Int) : Decidable (posOk p) := by unfold posOk; infer_instance
def pos_May_ct : Ct := ⟨tys1 tPos, [.val .bool], fun _ => True, fun p => bo (posOk p)⟩
def ref_PosMay_ct : Ct := pos_May_ct
def posAdd (a b : Int × Int × Int) : Int × Int × Int := (a.1 + b.1, a.2.1 + b.2.1, if b.2.1 = 0 then a.2.2 + b.2.2 else b.2.2)
def posJoin (a b : Int × Int × Int) : (Int × Int × Int) × Int :=
  if posOk a ∧ posOk b ∧ posOk (posAdd a b) then (posAdd a b, 0) else ((0, 0, 0), 4)
def pos_Join_ct : Ct := ⟨tys2 tPos tPos, [.val tPos, .val tI], fun _ => True, fun x => posJoin x.1 x.2⟩
def ref_PosJoin_ct : Ct := pos_Join_ct

/-! edits -/
def editFault (size : Int) (e : Int × Int × Bytes) : Int :=
  if size < 0 ∨ 600 < size ∨ e.1 < 0 ∨ size < e.1 ∨ e.2.1 < 0 ∨ size - e.1 < e.2.1 then 2 else if 600 < size - e.2.1 + e.2.2.length then 1 else 0
abbrev editFits (e : Int × Int × Bytes) : Prop := inI64 e.1 ∧ inI64 e.2.1 ∧ fitS e.2.2
def edit_Check_ct : Ct := ⟨tys2 tI tEdit, [.val tI], fun x => inI64 x.1 ∧ editFits x.2, fun x => editFault x.1 x.2⟩
def ref_EditFault_ct : Ct := edit_Check_ct
def moved (e : Int × Int × Bytes) (at_ : Int) (right : Bool) : Int :=
  if at_ < e.1 then at_
  else if (e.2.1 = 0 ∧ e.1 < at_) ∨ (0 < e.2.1 ∧ e.1 + e.2.1 ≤ at_) then at_ + e.2.2.length - e.2.1
  else if right = true then e.1 + e.2.2.length else e.1
abbrev movedPre (e : Int × Int × Bytes) (at_ : Int) : Prop := 0 ≤ e.1 ∧ e.1 ≤ 1099511627776 ∧ 0 ≤ e.2.1 ∧ e.2.1 ≤ 1099511627776 ∧ fitS e.2.2 ∧ 0 ≤ at_ ∧ at_ ≤ 1099511627776
def edit_Moved_ct : Ct := ⟨tys3 tEdit tI .bool, [.val tI], fun x => movedPre x.1 x.2.1, fun x => moved x.1 x.2.1 x.2.2⟩
def ref_editPlace_ct : Ct := edit_Moved_ct
def placed (e : Int × Int × Bytes) (at_ : Int) (right : Bool) : Int × Int :=
  if e.1 < 0 ∨ e.2.1 < 0 ∨ at_ < 0 ∨ 1099511627776 < e.1 ∨ 1099511627776 < e.2.1 ∨ 1099511627776 < at_ then (0, 2) else (moved e at_ right, 0)
def edit_Place_ct : Ct := ⟨tys3 tEdit tI .bool, [.val tI, .val tI], fun x => fitS x.1.2.2, fun x => placed x.1 x.2.1 x.2.2⟩
def ref_EditPlace_ct : Ct := edit_Place_ct

/-! spans -/
def spansOkFrom (size : Int) : Int → List (Int × Int) → Prop
  | _, [] => True
  | last, s :: l => last < s.1 ∧ s.1 < s.2 ∧ s.2 ≤ size ∧ spansOkFrom size s.2 l
def spansOk (size : Int) (l : List (Int × Int)) : Prop := 0 ≤ size ∧ size ≤ 600 ∧ l.length ≤ 40 ∧ spansOkFrom size (-1) l
def spans_May_ct : Ct := ⟨tys2 tI (.sl tSpan), [.val .bool], fun x => fitL x.2, fun x => bo (spansOk x.1 x.2)⟩
def ref_SpansMay_ct : Ct := spans_May_ct

/-! lines -/
def startsFrom : Int → Bytes → List Int
  | _, [] => []
  | i, c :: s => if c = 10 then (i + 1) :: startsFrom (i + 1) s else startsFrom (i + 1) s
def startsOf (s : Bytes) : List Int := 0 :: startsFrom 0 s
def lines_Of_ct : Ct := ⟨tys1 .str, [.own tI], fun s => s.length ≤ 1000000, fun s => startsOf s⟩
def cutStep (l : List Bytes) (c : UInt8) : List Bytes := if c = 10 then l ++ [[]] else l.dropLast ++ [l.getLastD [] ++ [c]]
def cutLines (s : Bytes) : List Bytes := s.foldl cutStep [[]]
def ref_cutLines_ct : Ct := ⟨tys1 .str, [.own .str], fun s => s.length ≤ 1000000, fun s => cutLines s⟩
def linesStarts (s : Bytes) : List Int × Int := if 600 < s.length then ([], 1) else (startsOf s, 0)
def lines_Starts_ct : Ct := ⟨tys1 .str, [.own tI, .val tI], fun s => fitS s, fun s => linesStarts s⟩
def ref_LinesStarts_ct : Ct := lines_Starts_ct
def law_sameTexts_ct : Ct := ⟨tys2 (.sl .str) (.sl .str), [.val .bool], fun x => fitL x.1 ∧ fitL x.2, fun x => bo (x.1 = x.2)⟩
def law_sameInts_ct : Ct := ⟨tys2 (.sl tI) (.sl tI), [.val .bool], fun x => fitL x.1 ∧ fitL x.2, fun x => bo (x.1 = x.2)⟩

/-! marks -/
/-- Of those whose key is not below a, the first one with the least key. -/
def nearOk (k : Int → Int) (a lo hi r : Int) : Prop :=
  (r = -1 ∧ ∀ i, lo ≤ i → i < hi → k i < a) ∨ (lo ≤ r ∧ r < hi ∧ a ≤ k r ∧ (∀ i, lo ≤ i → i < hi → a ≤ k i → k r ≤ k i) ∧ ∀ i, lo ≤ i → i < r → a ≤ k i → k r < k i)
def nkey (right : Bool) (v : Int) : Int := if right = true then v else -v
def nearest (ms : List (Int × Bool)) (at_ : Int) (right : Bool) : Int := Classical.epsilon (nearOk (fun i => nkey right (gt ms i).1) (nkey right at_) 0 ms.length)
theorem near_uniq {k : Int → Int} {a lo hi q r : Int} (h : nearOk k a lo hi r) (h' : nearOk k a lo hi q) : q = r := by
  rcases h with ⟨rfl, h1⟩ | ⟨a1, a2, a3, a4, a5⟩ <;> rcases h' with ⟨rfl, b1⟩ | ⟨b1, b2, b3, b4, b5⟩
  · rfl
  · have := h1 q b1 b2; omega
  · have := b1 r a1 a2; omega
  · have c1 := a4 q b1 b2 b3
    have c2 := b4 r a1 a2 a3
    rcases Int.lt_trichotomy q r with c | c | c
    · have := a5 q b1 c b3; omega
    · exact c
    · have := b5 r a1 c a3; omega
theorem nearest_eq {ms : List (Int × Bool)} {at_ : Int} {right : Bool} {r : Int} (h : nearOk (fun i => nkey right (gt ms i).1) (nkey right at_) 0 ms.length r) : nearest ms at_ right = r :=
  near_uniq h (Classical.epsilon_spec (p := nearOk (fun i => nkey right (gt ms i).1) (nkey right at_) 0 ms.length) ⟨r, h⟩)
def marksNear (ms : List (Int × Bool)) (at_ : Int) (right : Bool) : Int × Int :=
  if 60 < ms.length then (0, 1) else if nearest ms at_ right < 0 then (0, 7) else (nearest ms at_ right, 0)
def marks_Near_ct : Ct := ⟨tys3 (.sl tMark) tI .bool, [.val tI, .val tI], fun x => True, fun x => marksNear x.1 x.2.1 x.2.2⟩
def ref_MarksNear_ct : Ct := marks_Near_ct

/-! finding -/
/-- The longest border of a beginning: k bytes that it begins and ends with. -/
def isBord (s : Bytes) (n k : Int) : Prop := 0 ≤ k ∧ k < n ∧ ∀ i, 0 ≤ i → i < k → gt s i = gt s (n - k + i)
def bordOk (s : Bytes) (n k : Int) : Prop := isBord s n k ∧ ∀ j, isBord s n j → j ≤ k
def bord (s : Bytes) (n : Int) : Int := Classical.epsilon (bordOk s n)
def borders (s : Bytes) : List Int := (List.range s.length).map fun i : Nat => bord s ((i : Int) + 1)
def find_border_ct : Ct := ⟨tys1 .str, [.own tI], fun s => s.length ≤ 1000000, fun s => borders s⟩
def findBorder (s : Bytes) : List Int × Int := if 600 < s.length then ([], 1) else (borders s, 0)
def find_Border_ct : Ct := ⟨tys1 .str, [.own tI, .val tI], fun s => fitS s, fun s => findBorder s⟩
def ref_FindBorder_ct : Ct := find_Border_ct
end
end Go.Fu
