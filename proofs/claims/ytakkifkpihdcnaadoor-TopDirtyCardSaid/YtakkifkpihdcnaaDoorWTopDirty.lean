/- The typed conditions of the functions, printed by a program of the claim's author; each gives the contract of its function. Conditions: none. -/
import Derived.Test.YtakkifkpihdcnaaDoorGTopDirty
import Derived.Test.YtakkifkpihdcnaaDoorVpA
import Derived.Test.YtakkifkpihdcnaaDoorVpB
import Derived.Test.YtakkifkpihdcnaaDoorVpC
import Derived.Test.YtakkifkpihdcnaaDoorVpKP
import Derived.Test.YtakkifkpihdcnaaDoorVpKT
import Derived.Test.YtakkifkpihdcnaaDoorVpE
import Derived.Test.YtakkifkpihdcnaaDoorVpJ
import Derived.Test.YtakkifkpihdcnaaDoorVpP
import Derived.Test.YtakkifkpihdcnaaDoorVpR
import Derived.Test.YtakkifkpihdcnaaDoorVpRJ
import Derived.Test.YtakkifkpihdcnaaDoorVpRS
import Derived.Test.YtakkifkpihdcnaaDoorVpD
import Derived.Test.YtakkifkpihdcnaaDoorVpG
import Derived.Test.YtakkifkpihdcnaaDoorVpLN
import Derived.Test.YtakkifkpihdcnaaDoorVpI
import Derived.Test.YtakkifkpihdcnaaDoorVpTD
import Derived.Test.YtakkifkpihdcnaaDoorVpK
import Derived.Test.YtakkifkpihdcnaaDoorInsG
import Derived.Test.YtakkifkpihdcnaaDoorP2
import Derived.Test.YtakkifkpihdcnaaDoorBase
set_option linter.unusedVariables false
set_option linter.unusedSimpArgs false
set_option maxRecDepth 100000
namespace Go.Proofs.YtakkifkpihdcnaaDoor
open Go.Vc Go.Fu

theorem keep_Picked_vc (hC : Cons Tryd.prog [])
 (H : ∀ (a : Int) (n : Int), (pickPre (a, n)) →
 n ≠ 0 ∧ (a.tmod n < 0 → inI64 (a.tmod n + n) ∧ a.tmod n + n = pickOf a n) ∧ (¬a.tmod n < 0 → a.tmod n = pickOf a n)) :
 Con Tryd.prog f_keep_Picked keep_Picked_ct := ⟨keep_Picked_ok.able rfl, fun x hx =>
 con_eq hC (L := []) (trivial) keep_Picked_ok (ct := keep_Picked_ct) (depth := 0) rfl (by kernel_rfl) x (H (@id (Int × Int) x).1 (@id (Int × Int) x).2 (mpr' hx (by kernel_rfl))) (by kernel_rfl)⟩

theorem keep_TextOf_vc (hC : Cons Tryd.prog [(f_keep_Picked, keep_Picked_ct)])
 (H : ∀ (l : List Int) (n : Int), (fewPre (l, n)) →
 ∃ (I : List UInt8 → Int → Prop),
 ∃ (m : List UInt8 → Int → Nat),
 I [] (0 : Int) ∧
 ∀ (out : List UInt8) (i : Int),
 I out i →
 (i < (↑l.length : Int) ∧ i < n →
 (0 : Int) ≤ i ∧
 i < (↑l.length : Int) ∧
 pickPre (gt l i, (12 : Int)) ∧
 (0 : Int) ≤ pickOf (gt l i) (12 : Int) ∧
 pickOf (gt l i) (12 : Int) ≤ (↑(12 : Nat) : Int) ∧
 (↑(12 : Nat) : Int) ≤ (↑(12 : Nat) : Int) ∧
 (0 : Int) ≤ (0 : Int) ∧
 (0 : Int) ≤ (1 : Int) ∧
 (1 : Int) ≤
 (↑(List.drop (pickOf (gt l i) (12 : Int)).toNat
 (List.take (↑(12 : Nat) : Int).toNat
 [(97 : UInt8), (98 : UInt8), (32 : UInt8), (10 : UInt8), (97 : UInt8),
 (98 : UInt8), (99 : UInt8), (100 : UInt8), (32 : UInt8), (98 : UInt8),
 (10 : UInt8), (97 : UInt8)])).length :
 Int) ∧
 inI64
 ((↑out.length : Int) +
 (↑(List.drop (Int.toNat (0 : Int))
 (List.take (Int.toNat (1 : Int))
 (List.drop (pickOf (gt l i) (12 : Int)).toNat
 (List.take (↑(12 : Nat) : Int).toNat
 [(97 : UInt8), (98 : UInt8), (32 : UInt8), (10 : UInt8),
 (97 : UInt8), (98 : UInt8), (99 : UInt8), (100 : UInt8),
 (32 : UInt8), (98 : UInt8), (10 : UInt8),
 (97 : UInt8)])))).length :
 Int)) ∧
 inI64 (i + (1 : Int)) ∧
 I
 (out ++
 List.drop (Int.toNat (0 : Int))
 (List.take (Int.toNat (1 : Int))
 (List.drop (pickOf (gt l i) (12 : Int)).toNat
 (List.take (↑(12 : Nat) : Int).toNat
 [(97 : UInt8), (98 : UInt8), (32 : UInt8), (10 : UInt8), (97 : UInt8),
 (98 : UInt8), (99 : UInt8), (100 : UInt8), (32 : UInt8),
 (98 : UInt8), (10 : UInt8), (97 : UInt8)]))))
 (i + (1 : Int)) ∧
 m
 (out ++
 List.drop (Int.toNat (0 : Int))
 (List.take (Int.toNat (1 : Int))
 (List.drop (pickOf (gt l i) (12 : Int)).toNat
 (List.take (↑(12 : Nat) : Int).toNat
 [(97 : UInt8), (98 : UInt8), (32 : UInt8), (10 : UInt8),
 (97 : UInt8), (98 : UInt8), (99 : UInt8), (100 : UInt8),
 (32 : UInt8), (98 : UInt8), (10 : UInt8), (97 : UInt8)]))))
 (i + (1 : Int)) <
 m out i) ∧
 (¬(i < (↑l.length : Int) ∧ i < n) → out = textOf l n)) :
 Con Tryd.prog f_keep_TextOf keep_TextOf_ct := ⟨keep_TextOf_ok.able rfl, fun x hx =>
 con_eq hC (L := []) (trivial) keep_TextOf_ok (ct := keep_TextOf_ct) (depth := 0) rfl (by kernel_rfl) x (H (@id (List Int × Int) x).1 (@id (List Int × Int) x).2 (mpr' hx (by kernel_rfl))) (by kernel_rfl)⟩

theorem keep_EditOf_vc (hC : Cons Tryd.prog [(f_keep_Picked, keep_Picked_ct), (f_keep_TextOf, keep_TextOf_ct)])
 (H : ∀ (c : Int × Int × List Int) (size : Int), (chgPre (c, size)) →
 inI64 (size + 1) ∧
 pickPre (c.fst, size + 1) ∧
 inI64 (size - pickOf c.fst (size + 1)) ∧
 inI64 (min (size - pickOf c.fst (size + 1)) 12 + 1) ∧
 pickPre (c.snd.fst, min (size - pickOf c.fst (size + 1)) 12 + 1) ∧
 fewPre (c.snd.snd, 8) ∧
 (pickOf c.fst (size + 1), pickOf c.snd.fst (min (size - pickOf c.fst (size + 1)) 12 + 1),
 textOf c.snd.snd 8) =
 editOf c size) :
 Con Tryd.prog f_keep_EditOf keep_EditOf_ct := ⟨keep_EditOf_ok.able rfl, fun x hx =>
 con_eq hC (L := []) (trivial) keep_EditOf_ok (ct := keep_EditOf_ct) (depth := 0) rfl (by kernel_rfl) x (H (@id ((Int × Int × List Int) × Int) x).1 (@id ((Int × Int × List Int) × Int) x).2 (mpr' hx (by kernel_rfl))) (by kernel_rfl)⟩

theorem edit_Check_vc (hC : Cons Tryd.prog [])
 (H : ∀ (size : Int) (e : Int × Int × List UInt8), (inI64 size ∧ editFits e) →
 (¬((((size < 0 ∨ 600 < size) ∨ e.fst < 0) ∨ size < e.fst) ∨ e.snd.fst < 0) → inI64 (size - e.fst)) ∧
 (((((size < 0 ∨ 600 < size) ∨ e.fst < 0) ∨ size < e.fst) ∨ e.snd.fst < 0) ∨ size - e.fst < e.snd.fst →
 2 = editFault size e) ∧
 (¬(((((size < 0 ∨ 600 < size) ∨ e.fst < 0) ∨ size < e.fst) ∨ e.snd.fst < 0) ∨ size - e.fst < e.snd.fst) →
 inI64 (size - e.snd.fst) ∧
 inI64 (size - e.snd.fst + (↑e.snd.snd.length : Int)) ∧
 (600 < size - e.snd.fst + (↑e.snd.snd.length : Int) → 1 = editFault size e) ∧
 (¬600 < size - e.snd.fst + (↑e.snd.snd.length : Int) → 0 = editFault size e))) :
 Con Tryd.prog f_edit_Check edit_Check_ct := ⟨edit_Check_ok.able rfl, fun x hx =>
 con_eq hC (L := []) (trivial) edit_Check_ok (ct := edit_Check_ct) (depth := 0) rfl (by kernel_rfl) x (H (@id (Int × (Int × Int × List UInt8)) x).1 (@id (Int × (Int × Int × List UInt8)) x).2 (mpr' hx (by kernel_rfl))) (by kernel_rfl)⟩

theorem edit_Made_vc (hC : Cons Tryd.prog [])
 (H : ∀ (text : List UInt8) (e : Int × Int × List UInt8), (editMay (↑text.length : Int) e) →
 (0 : Int) ≤ (0 : Int) ∧
 (0 : Int) ≤ e.fst ∧
 e.fst ≤ (↑text.length : Int) ∧
 inI64
 ((↑(List.drop (Int.toNat (0 : Int)) (List.take e.fst.toNat text)).length : Int) + (↑e.snd.snd.length : Int)) ∧
 inI64 (e.fst + e.snd.fst) ∧
 (0 : Int) ≤ e.fst + e.snd.fst ∧
 e.fst + e.snd.fst ≤ (↑text.length : Int) ∧
 (↑text.length : Int) ≤ (↑text.length : Int) ∧
 inI64
 ((↑(List.drop (Int.toNat (0 : Int)) (List.take e.fst.toNat text) ++ e.snd.snd).length : Int) +
 (↑(List.drop (e.fst + e.snd.fst).toNat (List.take (↑text.length : Int).toNat text)).length :
 Int)) ∧
 List.drop (Int.toNat (0 : Int)) (List.take e.fst.toNat text) ++ e.snd.snd ++
 List.drop (e.fst + e.snd.fst).toNat (List.take (↑text.length : Int).toNat text) =
 editMade text e) :
 Con Tryd.prog f_edit_Made edit_Made_ct := ⟨edit_Made_ok.able rfl, fun x hx =>
 con_eq hC (L := []) (trivial) edit_Made_ok (ct := edit_Made_ct) (depth := 0) rfl (by kernel_rfl) x (H (@id (List UInt8 × (Int × Int × List UInt8)) x).1 (@id (List UInt8 × (Int × Int × List UInt8)) x).2 (mpr' hx (by kernel_rfl))) (by kernel_rfl)⟩

theorem edit_Undo_vc (hC : Cons Tryd.prog [])
 (H : ∀ (text : List UInt8) (e : Int × Int × List UInt8), (editMay (↑text.length : Int) e) →
 inI64 (e.fst + e.snd.fst) ∧
 0 ≤ e.fst ∧
 e.fst ≤ e.fst + e.snd.fst ∧
 e.fst + e.snd.fst ≤ (↑text.length : Int) ∧
 (e.fst, (↑e.snd.snd.length : Int), List.drop e.fst.toNat (List.take (e.fst + e.snd.fst).toNat text)) =
 editUndo text e) :
 Con Tryd.prog f_edit_Undo edit_Undo_ct := ⟨edit_Undo_ok.able rfl, fun x hx =>
 con_eq hC (L := []) (trivial) edit_Undo_ok (ct := edit_Undo_ct) (depth := 0) rfl (by kernel_rfl) x (H (@id (List UInt8 × (Int × Int × List UInt8)) x).1 (@id (List UInt8 × (Int × Int × List UInt8)) x).2 (mpr' hx (by kernel_rfl))) (by kernel_rfl)⟩

theorem edit_run_vc (hC : Cons Tryd.prog [(f_edit_Check, edit_Check_ct), (f_edit_Made, edit_Made_ct), (f_edit_Undo, edit_Undo_ct)])
 (H : ∀ (text : List UInt8) (l : List (Int × Int × List UInt8)), (editsFit l) →
 (60 < (↑l.length : Int) ∨ 600 < (↑text.length : Int) →
 [] = (editRun text l).fst ∧ [] = (editRun text l).snd.fst ∧ 1 = (editRun text l).snd.snd) ∧
 (¬(60 < (↑l.length : Int) ∨ 600 < (↑text.length : Int)) →
 ∃ (I : List UInt8 → Int → List (Int × Int × List UInt8) → Prop),
 ∃ (m : List UInt8 → Int → List (Int × Int × List UInt8) → Nat),
 I text 0 [] ∧
 ∀ (text_1 : List UInt8) (x : Int) (back : List (Int × Int × List UInt8)),
 I text_1 x back →
 (x < (↑l.length : Int) →
 0 ≤ x ∧
 x < (↑l.length : Int) ∧
 (inI64 (↑text_1.length : Int) ∧ editFits ((gt l x).fst, (gt l x).snd.fst, (gt l x).snd.snd)) ∧
 (editFault (↑text_1.length : Int) ((gt l x).fst, (gt l x).snd.fst, (gt l x).snd.snd) ≠ 0 →
 [] = (editRun text l).fst ∧
 [] = (editRun text l).snd.fst ∧
 editFault (↑text_1.length : Int) ((gt l x).fst, (gt l x).snd.fst, (gt l x).snd.snd) =
 (editRun text l).snd.snd) ∧
 (¬editFault (↑text_1.length : Int) ((gt l x).fst, (gt l x).snd.fst, (gt l x).snd.snd) ≠ 0 →
 editMay (↑text_1.length : Int) ((gt l x).fst, (gt l x).snd.fst, (gt l x).snd.snd) ∧
 (back.length + 1) * 32 ≤ 140737488355328 ∧
 editMay (↑text_1.length : Int) ((gt l x).fst, (gt l x).snd.fst, (gt l x).snd.snd) ∧
 inI64 (x + 1) ∧
 I (editMade text_1 ((gt l x).fst, (gt l x).snd.fst, (gt l x).snd.snd)) (x + 1)
 (back ++
 [((editUndo text_1 ((gt l x).fst, (gt l x).snd.fst, (gt l x).snd.snd)).fst,
 (editUndo text_1
 ((gt l x).fst, (gt l x).snd.fst, (gt l x).snd.snd)).snd.fst,
 (editUndo text_1
 ((gt l x).fst, (gt l x).snd.fst, (gt l x).snd.snd)).snd.snd)]) ∧
 m (editMade text_1 ((gt l x).fst, (gt l x).snd.fst, (gt l x).snd.snd)) (x + 1)
 (back ++
 [((editUndo text_1 ((gt l x).fst, (gt l x).snd.fst, (gt l x).snd.snd)).fst,
 (editUndo text_1
 ((gt l x).fst, (gt l x).snd.fst, (gt l x).snd.snd)).snd.fst,
 (editUndo text_1
 ((gt l x).fst, (gt l x).snd.fst, (gt l x).snd.snd)).snd.snd)]) <
 m text_1 x back)) ∧
 (¬x < (↑l.length : Int) →
 text_1 = (editRun text l).fst ∧ back = (editRun text l).snd.fst ∧ 0 = (editRun text l).snd.snd))) :
 Con Tryd.prog f_edit_run edit_run_ct := ⟨edit_run_ok.able rfl, fun x hx =>
 con_eq hC (L := []) (trivial) edit_run_ok (ct := edit_run_ct) (depth := 0) rfl (by kernel_rfl) x (H (@id (List UInt8 × (List (Int × Int × List UInt8))) x).1 (@id (List UInt8 × (List (Int × Int × List UInt8))) x).2 (mpr' hx (by kernel_rfl))) (by kernel_rfl)⟩

theorem edit_Apply_vc (hC : Cons Tryd.prog [(f_edit_run, edit_run_ct)])
 (H : ∀ (text : List UInt8) (l : List (Int × Int × List UInt8)), (editsFit l) →
 editsFit l ∧ (editRun text l).fst = (editApply text l).fst ∧ (editRun text l).snd.snd = (editApply text l).snd) :
 Con Tryd.prog f_edit_Apply edit_Apply_ct := ⟨edit_Apply_ok.able rfl, fun x hx =>
 con_eq hC (L := []) (trivial) edit_Apply_ok (ct := edit_Apply_ct) (depth := 0) rfl (by kernel_rfl) x (H (@id (List UInt8 × (List (Int × Int × List UInt8))) x).1 (@id (List UInt8 × (List (Int × Int × List UInt8))) x).2 (mpr' hx (by kernel_rfl))) (by kernel_rfl)⟩

theorem spans_May_vc (hC : Cons Tryd.prog [])
 (H : ∀ (size : Int) (l : List (Int × Int)), (fitL l) →
 ((size < 0 ∨ 600 < size) ∨ 40 < (↑l.length : Int) → false = bo (spansOk size l)) ∧
 (¬((size < 0 ∨ 600 < size) ∨ 40 < (↑l.length : Int)) →
 ∃ (I : Int → Int → Prop),
 ∃ (m : Int → Int → Nat),
 I (-1) 0 ∧
 ∀ (last x : Int),
 I last x →
 (x < (↑l.length : Int) →
 0 ≤ x ∧
 x < (↑l.length : Int) ∧
 (((gt l x).fst ≤ last ∨ (gt l x).snd ≤ (gt l x).fst) ∨ size < (gt l x).snd →
 false = bo (spansOk size l)) ∧
 (¬(((gt l x).fst ≤ last ∨ (gt l x).snd ≤ (gt l x).fst) ∨ size < (gt l x).snd) →
 inI64 (x + 1) ∧ I (gt l x).snd (x + 1) ∧ m (gt l x).snd (x + 1) < m last x)) ∧
 (¬x < (↑l.length : Int) → true = bo (spansOk size l)))) :
 Con Tryd.prog f_spans_May spans_May_ct := ⟨spans_May_ok.able rfl, fun x hx =>
 con_eq hC (L := []) (trivial) spans_May_ok (ct := spans_May_ct) (depth := 0) rfl (by kernel_rfl) x (H (@id (Int × (List (Int × Int))) x).1 (@id (Int × (List (Int × Int))) x).2 (mpr' hx (by kernel_rfl))) (by kernel_rfl)⟩

theorem slices_Clone___api_Span_api_Span__vc (hC : Cons Tryd.prog [])
 (H : ∀ (s : List (Int × Int)), (fitM s) →
 ∀ (isnil : Prop),
 (isnil → (↑s.length : Int) = 0) → (isnil → [] = s) ∧ (¬isnil → (0 + s.length) * 16 ≤ 140737488355328 ∧ [] ++ s = s)) :
 Con Tryd.prog f_slices_Clone___api_Span_api_Span_ slices_Clone___api_Span_api_Span__ct := ⟨slices_Clone___api_Span_api_Span__ok.able rfl, fun x hx =>
 con_eq hC (L := []) (trivial) slices_Clone___api_Span_api_Span__ok (ct := slices_Clone___api_Span_api_Span__ct) (depth := 0) rfl (by kernel_rfl) x (H (@id ((List (Int × Int))) x) (mpr' hx (by kernel_rfl))) (by kernel_rfl)⟩

theorem spans_Without_vc (hC : Cons Tryd.prog [(f_slices_Clone___api_Span_api_Span_, slices_Clone___api_Span_api_Span__ct)])
 (H : ∀ (l : List (Int × Int)) (s : Int × Int), (spansPre l ∧ spanPre s) →
 ∃ (I : Int → List (Int × Int) → Prop),
 ∃ (m : Int → List (Int × Int) → Nat),
 (s.fst = s.fst ∧ s.snd = s.snd ∧ I (0 : Int) []) ∧
 ∀ (x : Int) (out : List (Int × Int)),
 I x out →
 (x < (↑l.length : Int) →
 (0 : Int) ≤ x ∧
 x < (↑l.length : Int) ∧
 (out.length + (2 : Nat)) * (16 : Nat) ≤ (140737488355328 : Nat) ∧
 inI64 (x + (1 : Int)) ∧
 s.fst = s.fst ∧
 s.snd = s.snd ∧
 I (x + (1 : Int))
 (out ++
 [((gt l x).fst, min (gt l x).snd (max (gt l x).fst s.fst)),
 (max (gt l x).fst (min (gt l x).snd s.snd), (gt l x).snd)]) ∧
 m (x + (1 : Int))
 (out ++
 [((gt l x).fst, min (gt l x).snd (max (gt l x).fst s.fst)),
 (max (gt l x).fst (min (gt l x).snd s.snd), (gt l x).snd)]) <
 m x out) ∧
 (¬x < (↑l.length : Int) →
 (s.fst = s.snd → fitM l ∧ l = without l s) ∧
 (¬s.fst = s.snd →
 ∃ (I : Int → Prop),
 ∃ (m : Int → Nat),
 (s.fst = s.fst ∧ s.snd = s.snd ∧ out = out ∧ I (0 : Int)) ∧
 ∀ (x : Int),
 I x →
 (x < (↑out.length : Int) →
 (0 : Int) ≤ x ∧
 x < (↑out.length : Int) ∧
 ((gt out x).snd ≤ (gt out x).fst →
 (x = (-1 : Int) → out = without l s) ∧
 (¬x = (-1 : Int) →
 inI64 (x + (1 : Int)) ∧
 ∃ (I : Int → Int → List (Int × Int) → Prop),
 ∃ (m : Int → Int → List (Int × Int) → Nat),
 (s.fst = s.fst ∧
 s.snd = s.snd ∧
 (gt out x).fst = (gt out x).fst ∧
 (gt out x).snd = (gt out x).snd ∧ I x (x + (1 : Int)) out) ∧
 ∀ (i j : Int) (s_1 : List (Int × Int)),
 I i j s_1 →
 (j < (↑s_1.length : Int) →
 (0 : Int) ≤ j ∧
 j < (↑s_1.length : Int) ∧
 (¬(gt s_1 j).snd ≤ (gt s_1 j).fst →
 (0 : Int) ≤ i ∧
 i < (↑s_1.length : Int) ∧
 inI64 (i + (1 : Int)) ∧
 inI64 (j + (1 : Int)) ∧
 s.fst = s.fst ∧
 s.snd = s.snd ∧
 (gt out x).fst = (gt out x).fst ∧
 (gt out x).snd = (gt out x).snd ∧
 I (i + (1 : Int)) (j + (1 : Int))
 (s_1.set i.toNat
 ((gt s_1 j).fst,
 (gt s_1 j).snd)) ∧
 m (i + (1 : Int)) (j + (1 : Int))
 (s_1.set i.toNat
 ((gt s_1 j).fst,
 (gt s_1 j).snd)) <
 m i j s_1) ∧
 (¬¬(gt s_1 j).snd ≤ (gt s_1 j).fst →
 inI64 (j + (1 : Int)) ∧
 s.fst = s.fst ∧
 s.snd = s.snd ∧
 (gt out x).fst = (gt out x).fst ∧
 (gt out x).snd = (gt out x).snd ∧
 I i (j + (1 : Int)) s_1 ∧
 m i (j + (1 : Int)) s_1 < m i j s_1)) ∧
 (¬j < (↑s_1.length : Int) →
 (0 : Int) ≤ i ∧
 i ≤ (↑s_1.length : Int) ∧
 (↑s_1.length : Int) ≤ (↑s_1.length : Int) ∧
 (0 : Int) ≤ (0 : Int) ∧
 (0 : Int) ≤ i ∧
 i ≤
 (↑(List.take i.toNat s_1 ++
 List.replicate
 ((↑s_1.length : Int) - i).toNat
 ((0 : Int), (0 : Int)) ++
 List.drop
 (i.toNat +
 ((↑s_1.length : Int) - i).toNat)
 s_1).length :
 Int) ∧
 (0 : Int) = (0 : Int) ∧
 List.take (i - (0 : Int)).toNat
 (List.take i.toNat s_1 ++
 List.replicate
 ((↑s_1.length : Int) - i).toNat
 ((0 : Int), (0 : Int)) ++
 List.drop
 (i.toNat +
 ((↑s_1.length : Int) - i).toNat)
 s_1) =
 without l s))) ∧
 (¬(gt out x).snd ≤ (gt out x).fst →
 inI64 (x + (1 : Int)) ∧
 s.fst = s.fst ∧
 s.snd = s.snd ∧ out = out ∧ I (x + (1 : Int)) ∧ m (x + (1 : Int)) < m x)) ∧
 (¬x < (↑out.length : Int) →
 ((-1 : Int) = (-1 : Int) → out = without l s) ∧
 (¬(-1 : Int) = (-1 : Int) →
 inI64 ((-1 : Int) + (1 : Int)) ∧
 ∃ (I : Int → Int → List (Int × Int) → Prop),
 ∃ (m : Int → Int → List (Int × Int) → Nat),
 (s.fst = s.fst ∧ s.snd = s.snd ∧ I (-1 : Int) ((-1 : Int) + (1 : Int)) out) ∧
 ∀ (i j : Int) (s_1 : List (Int × Int)),
 I i j s_1 →
 (j < (↑s_1.length : Int) →
 (0 : Int) ≤ j ∧
 j < (↑s_1.length : Int) ∧
 (¬(gt s_1 j).snd ≤ (gt s_1 j).fst →
 (0 : Int) ≤ i ∧
 i < (↑s_1.length : Int) ∧
 inI64 (i + (1 : Int)) ∧
 inI64 (j + (1 : Int)) ∧
 s.fst = s.fst ∧
 s.snd = s.snd ∧
 I (i + (1 : Int)) (j + (1 : Int))
 (s_1.set i.toNat
 ((gt s_1 j).fst, (gt s_1 j).snd)) ∧
 m (i + (1 : Int)) (j + (1 : Int))
 (s_1.set i.toNat
 ((gt s_1 j).fst, (gt s_1 j).snd)) <
 m i j s_1) ∧
 (¬¬(gt s_1 j).snd ≤ (gt s_1 j).fst →
 inI64 (j + (1 : Int)) ∧
 s.fst = s.fst ∧
 s.snd = s.snd ∧
 I i (j + (1 : Int)) s_1 ∧
 m i (j + (1 : Int)) s_1 < m i j s_1)) ∧
 (¬j < (↑s_1.length : Int) →
 (0 : Int) ≤ i ∧
 i ≤ (↑s_1.length : Int) ∧
 (↑s_1.length : Int) ≤ (↑s_1.length : Int) ∧
 (0 : Int) ≤ (0 : Int) ∧
 (0 : Int) ≤ i ∧
 i ≤
 (↑(List.take i.toNat s_1 ++
 List.replicate
 ((↑s_1.length : Int) - i).toNat
 ((0 : Int), (0 : Int)) ++
 List.drop
 (i.toNat + ((↑s_1.length : Int) - i).toNat)
 s_1).length :
 Int) ∧
 (0 : Int) = (0 : Int) ∧
 List.take (i - (0 : Int)).toNat
 (List.take i.toNat s_1 ++
 List.replicate ((↑s_1.length : Int) - i).toNat
 ((0 : Int), (0 : Int)) ++
 List.drop
 (i.toNat + ((↑s_1.length : Int) - i).toNat)
 s_1) =
 without l s)))))) :
 Con Tryd.prog f_spans_Without spans_Without_ct := ⟨spans_Without_ok.able rfl, fun x hx =>
 con_eq hC (L := [(f_slices_DeleteFunc___api_Span_api_Span_, slices_DeleteFunc___api_Span_api_Span__fi), (f_slices_IndexFunc___api_Span_api_Span_, slices_IndexFunc___api_Span_api_Span__fi), (f_spans_Without_1, spans_Without_1_fi)]) (⟨slices_DeleteFunc___api_Span_api_Span__ok, slices_IndexFunc___api_Span_api_Span__ok, spans_Without_1_ok, trivial⟩) spans_Without_ok (ct := spans_Without_ct) (depth := 4) rfl (by kernel_rfl) x (H (@id ((List (Int × Int)) × (Int × Int)) x).1 (@id ((List (Int × Int)) × (Int × Int)) x).2 (mpr' hx (by kernel_rfl))) (by kernel_rfl)⟩

theorem spans_Joined_vc (hC : Cons Tryd.prog [])
 (H : ∀ (l : List (Int × Int)), (ascOk l) →
 ∃ (I : Int → List (Int × Int) → Prop),
 ∃ (m : Int → List (Int × Int) → Nat),
 I 0 [] ∧
 ∀ (x : Int) (out : List (Int × Int)),
 I x out →
 (x < (↑l.length : Int) →
 0 ≤ x ∧
 x < (↑l.length : Int) ∧
 ((gt l x).fst = (gt l x).snd → inI64 (x + 1) ∧ I (x + 1) out ∧ m (x + 1) out < m x out) ∧
 (¬(gt l x).fst = (gt l x).snd →
 (0 < (↑out.length : Int) → inI64 ((↑out.length : Int) - 1)) ∧
 (0 < (↑out.length : Int) → 0 ≤ (↑out.length : Int) - 1) ∧
 (0 < (↑out.length : Int) → (↑out.length : Int) - 1 < (↑out.length : Int)) ∧
 (0 < (↑out.length : Int) ∧ (gt l x).fst ≤ (gt out ((↑out.length : Int) - 1)).snd →
 inI64 ((↑out.length : Int) - 1) ∧
 inI64 ((↑out.length : Int) - 1) ∧
 0 ≤ (↑out.length : Int) - 1 ∧
 (↑out.length : Int) - 1 < (↑out.length : Int) ∧
 0 ≤ (↑out.length : Int) - 1 ∧
 (↑out.length : Int) - 1 < (↑out.length : Int) ∧
 inI64 (x + 1) ∧
 I (x + 1)
 (out.set ((↑out.length : Int) - 1).toNat
 ((gt out ((↑out.length : Int) - 1)).fst,
 max (gt out ((↑out.length : Int) - 1)).snd (gt l x).snd)) ∧
 m (x + 1)
 (out.set ((↑out.length : Int) - 1).toNat
 ((gt out ((↑out.length : Int) - 1)).fst,
 max (gt out ((↑out.length : Int) - 1)).snd (gt l x).snd)) <
 m x out) ∧
 (¬(0 < (↑out.length : Int) ∧ (gt l x).fst ≤ (gt out ((↑out.length : Int) - 1)).snd) →
 (out.length + 1) * 16 ≤ 140737488355328 ∧
 inI64 (x + 1) ∧
 I (x + 1) (out ++ [((gt l x).fst, (gt l x).snd)]) ∧
 m (x + 1) (out ++ [((gt l x).fst, (gt l x).snd)]) < m x out))) ∧
 (¬x < (↑l.length : Int) → out = joined l)) :
 Con Tryd.prog f_spans_Joined spans_Joined_ct := ⟨spans_Joined_ok.able rfl, fun x hx =>
 con_eq hC (L := []) (trivial) spans_Joined_ok (ct := spans_Joined_ct) (depth := 0) rfl (by kernel_rfl) x (H (@id ((List (Int × Int))) x) (mpr' hx (by kernel_rfl))) (by kernel_rfl)⟩

theorem spans_Shifted_vc (hC : Cons Tryd.prog [(f_spans_Without, spans_Without_ctv), (f_spans_Joined, spans_Joined_ct), (f_spans_With, spans_With_ct)])
 (H : ∀ (l : List (Int × Int)) (e : Int × Int × List UInt8), (shiftPre l e) →
 inI64 (e.fst + e.snd.fst) ∧
 (spansPre l ∧ spanPre (e.fst, e.fst + e.snd.fst)) ∧
 ∃ (I : Int → List (Int × Int) → Prop),
 ∃ (m : Int → List (Int × Int) → Nat),
 (e.fst = e.fst ∧ e.snd.fst = e.snd.fst ∧ e.snd.snd = e.snd.snd ∧ I 0 []) ∧
 ∀ (x : Int) (out : List (Int × Int)),
 I x out →
 (x < (↑(without l (e.fst, e.fst + e.snd.fst)).length : Int) →
 0 ≤ x ∧
 x < (↑(without l (e.fst, e.fst + e.snd.fst)).length : Int) ∧
 ((gt (without l (e.fst, e.fst + e.snd.fst)) x).fst < e.fst ∧
 e.fst < (gt (without l (e.fst, e.fst + e.snd.fst)) x).snd →
 (out.length + 1) * 16 ≤ 140737488355328 ∧
 (e.fst ≤ e.fst →
 inI64 ((↑e.snd.snd.length : Int) - e.snd.fst) ∧
 inI64 (e.fst + ((↑e.snd.snd.length : Int) - e.snd.fst)) ∧
 inI64
 ((gt (without l (e.fst, e.fst + e.snd.fst)) x).snd +
 ((↑e.snd.snd.length : Int) - e.snd.fst)) ∧
 ((out ++ [((gt (without l (e.fst, e.fst + e.snd.fst)) x).fst, e.fst)]).length +
 1) *
 16 ≤
 140737488355328 ∧
 inI64 (x + 1) ∧
 e.fst = e.fst ∧
 e.snd.fst = e.snd.fst ∧
 e.snd.snd = e.snd.snd ∧
 I (x + 1)
 (out ++
 [((gt (without l (e.fst, e.fst + e.snd.fst)) x).fst, e.fst)] ++
 [(e.fst + ((↑e.snd.snd.length : Int) - e.snd.fst),
 (gt (without l (e.fst, e.fst + e.snd.fst)) x).snd +
 ((↑e.snd.snd.length : Int) - e.snd.fst))]) ∧
 m (x + 1)
 (out ++
 [((gt (without l (e.fst, e.fst + e.snd.fst)) x).fst,
 e.fst)] ++
 [(e.fst + ((↑e.snd.snd.length : Int) - e.snd.fst),
 (gt (without l (e.fst, e.fst + e.snd.fst)) x).snd +
 ((↑e.snd.snd.length : Int) - e.snd.fst))]) <
 m x out) ∧
 (¬e.fst ≤ e.fst →
 ((out ++ [((gt (without l (e.fst, e.fst + e.snd.fst)) x).fst, e.fst)]).length + 1) *
 16 ≤
 140737488355328 ∧
 inI64 (x + 1) ∧
 e.fst = e.fst ∧
 e.snd.fst = e.snd.fst ∧
 e.snd.snd = e.snd.snd ∧
 I (x + 1)
 (out ++ [((gt (without l (e.fst, e.fst + e.snd.fst)) x).fst, e.fst)] ++
 [(e.fst, (gt (without l (e.fst, e.fst + e.snd.fst)) x).snd)]) ∧
 m (x + 1)
 (out ++ [((gt (without l (e.fst, e.fst + e.snd.fst)) x).fst, e.fst)] ++
 [(e.fst, (gt (without l (e.fst, e.fst + e.snd.fst)) x).snd)]) <
 m x out)) ∧
 (¬((gt (without l (e.fst, e.fst + e.snd.fst)) x).fst < e.fst ∧
 e.fst < (gt (without l (e.fst, e.fst + e.snd.fst)) x).snd) →
 (e.fst ≤ (gt (without l (e.fst, e.fst + e.snd.fst)) x).fst →
 inI64 ((↑e.snd.snd.length : Int) - e.snd.fst) ∧
 inI64
 ((gt (without l (e.fst, e.fst + e.snd.fst)) x).fst +
 ((↑e.snd.snd.length : Int) - e.snd.fst)) ∧
 inI64
 ((gt (without l (e.fst, e.fst + e.snd.fst)) x).snd +
 ((↑e.snd.snd.length : Int) - e.snd.fst)) ∧
 (out.length + 1) * 16 ≤ 140737488355328 ∧
 inI64 (x + 1) ∧
 e.fst = e.fst ∧
 e.snd.fst = e.snd.fst ∧
 e.snd.snd = e.snd.snd ∧
 I (x + 1)
 (out ++
 [((gt (without l (e.fst, e.fst + e.snd.fst)) x).fst +
 ((↑e.snd.snd.length : Int) - e.snd.fst),
 (gt (without l (e.fst, e.fst + e.snd.fst)) x).snd +
 ((↑e.snd.snd.length : Int) - e.snd.fst))]) ∧
 m (x + 1)
 (out ++
 [((gt (without l (e.fst, e.fst + e.snd.fst)) x).fst +
 ((↑e.snd.snd.length : Int) - e.snd.fst),
 (gt (without l (e.fst, e.fst + e.snd.fst)) x).snd +
 ((↑e.snd.snd.length : Int) - e.snd.fst))]) <
 m x out) ∧
 (¬e.fst ≤ (gt (without l (e.fst, e.fst + e.snd.fst)) x).fst →
 (out.length + 1) * 16 ≤ 140737488355328 ∧
 inI64 (x + 1) ∧
 e.fst = e.fst ∧
 e.snd.fst = e.snd.fst ∧
 e.snd.snd = e.snd.snd ∧
 I (x + 1)
 (out ++
 [((gt (without l (e.fst, e.fst + e.snd.fst)) x).fst,
 (gt (without l (e.fst, e.fst + e.snd.fst)) x).snd)]) ∧
 m (x + 1)
 (out ++
 [((gt (without l (e.fst, e.fst + e.snd.fst)) x).fst,
 (gt (without l (e.fst, e.fst + e.snd.fst)) x).snd)]) <
 m x out))) ∧
 (¬x < (↑(without l (e.fst, e.fst + e.snd.fst)).length : Int) →
 inI64 (e.fst + (↑e.snd.snd.length : Int)) ∧
 ascOk out ∧
 e.fst = e.fst ∧
 e.fst = e.fst ∧
 e.snd.snd = e.snd.snd ∧
 (spansPre (joined out) ∧ spanPre (e.fst, e.fst + (↑e.snd.snd.length : Int))) ∧
 withSp (joined out) (e.fst, e.fst + (↑e.snd.snd.length : Int)) = shifted l e)) :
 Con Tryd.prog f_spans_Shifted spans_Shifted_ct := ⟨spans_Shifted_ok.able rfl, fun x hx =>
 con_eq hC (L := []) (trivial) spans_Shifted_ok (ct := spans_Shifted_ct) (depth := 0) rfl (by kernel_rfl) x (H (@id ((List (Int × Int)) × (Int × Int × List UInt8)) x).1 (@id ((List (Int × Int)) × (Int × Int × List UInt8)) x).2 (mpr' hx (by kernel_rfl))) (by kernel_rfl)⟩

theorem spans_Shift_vc (hC : Cons Tryd.prog [(f_spans_May, spans_May_ct), (f_edit_Check, edit_Check_ct), (f_spans_Shifted, spans_Shifted_ct)])
 (H : ∀ (size : Int) (l : List (Int × Int)) (e : Int × Int × List UInt8), (shFits size l e) →
 fitL l ∧
 (¬bo (spansOk size l) = true → [] = (spansShift size l e).fst ∧ 4 = (spansShift size l e).snd) ∧
 (¬¬bo (spansOk size l) = true →
 (inI64 size ∧ editFits (e.fst, e.snd.fst, e.snd.snd)) ∧
 (editFault size (e.fst, e.snd.fst, e.snd.snd) ≠ 0 →
 [] = (spansShift size l e).fst ∧ editFault size (e.fst, e.snd.fst, e.snd.snd) = (spansShift size l e).snd) ∧
 (¬editFault size (e.fst, e.snd.fst, e.snd.snd) ≠ 0 →
 shiftPre l (e.fst, e.snd.fst, e.snd.snd) ∧
 (40 < (↑(shifted l (e.fst, e.snd.fst, e.snd.snd)).length : Int) →
 [] = (spansShift size l e).fst ∧ 8 = (spansShift size l e).snd) ∧
 (¬40 < (↑(shifted l (e.fst, e.snd.fst, e.snd.snd)).length : Int) →
 shifted l (e.fst, e.snd.fst, e.snd.snd) = (spansShift size l e).fst ∧ 0 = (spansShift size l e).snd)))) :
 Con Tryd.prog f_spans_Shift spans_Shift_ct := ⟨spans_Shift_ok.able rfl, fun x hx =>
 con_eq hC (L := [(f_spans_full, spans_full_fi)]) (⟨spans_full_ok, trivial⟩) spans_Shift_ok (ct := spans_Shift_ct) (depth := 3) rfl (by kernel_rfl) x (H (@id (Int × (List (Int × Int)) × (Int × Int × List UInt8)) x).1 (@id (Int × (List (Int × Int)) × (Int × Int × List UInt8)) x).2.1 (@id (Int × (List (Int × Int)) × (Int × Int × List UInt8)) x).2.2 (mpr' hx (by kernel_rfl))) (by kernel_rfl)⟩

theorem spans_Widened_vc (hC : Cons Tryd.prog [])
 (H : ∀ (text : List UInt8) (s : Int × Int), (widPre text s) →
 (0 : Int) ≤ (0 : Int) ∧
 (0 : Int) ≤ s.fst ∧
 s.fst ≤ (↑text.length : Int) ∧
 inI64 ((↑(List.drop (Int.toNat (0 : Int)) (List.take s.fst.toNat text)).length : Int) - (1 : Int)) ∧
 ∃ (I : Int → Prop),
 ∃ (m : Int → Nat),
 (s.fst = s.fst ∧
 s.snd = s.snd ∧
 (0 : Int) = (0 : Int) ∧
 (0 : Int) = (0 : Int) ∧
 I ((↑(List.drop (Int.toNat (0 : Int)) (List.take s.fst.toNat text)).length : Int) - (1 : Int))) ∧
 ∀ (i : Int),
 I i →
 ((0 : Int) ≤ i →
 (0 : Int) ≤ i ∧
 i < (↑(List.drop (Int.toNat (0 : Int)) (List.take s.fst.toNat text)).length : Int) ∧
 ((↑(gt (List.drop (Int.toNat (0 : Int)) (List.take s.fst.toNat text)) i).toNat : Int) =
 (10 : Int) →
 inI64 (i + (1 : Int)) ∧
 (0 : Int) ≤ s.snd ∧
 s.snd ≤ (↑text.length : Int) ∧
 (↑text.length : Int) ≤ (↑text.length : Int) ∧
 ((0 : Int) ≤
 Lib.indexByte
 (List.drop s.snd.toNat (List.take (↑text.length : Int).toNat text))
 (Int.toNat (10 : Int)).toUInt8 →
 inI64
 (Lib.indexByte
 (List.drop s.snd.toNat (List.take (↑text.length : Int).toNat text))
 (Int.toNat (10 : Int)).toUInt8 +
 (1 : Int)) ∧
 inI64
 (s.snd +
 (Lib.indexByte
 (List.drop s.snd.toNat
 (List.take (↑text.length : Int).toNat text))
 (Int.toNat (10 : Int)).toUInt8 +
 (1 : Int))) ∧
 (i + (1 : Int),
 s.snd +
 (Lib.indexByte
 (List.drop s.snd.toNat
 (List.take (↑text.length : Int).toNat text))
 (Int.toNat (10 : Int)).toUInt8 +
 (1 : Int))) =
 widened text s) ∧
 (¬(0 : Int) ≤
 Lib.indexByte
 (List.drop s.snd.toNat (List.take (↑text.length : Int).toNat text))
 (Int.toNat (10 : Int)).toUInt8 →
 (i + (1 : Int), (↑text.length : Int)) = widened text s)) ∧
 (¬(↑(gt (List.drop (Int.toNat (0 : Int)) (List.take s.fst.toNat text)) i).toNat : Int) =
 (10 : Int) →
 inI64 (i - (1 : Int)) ∧
 s.fst = s.fst ∧
 s.snd = s.snd ∧
 (0 : Int) = (0 : Int) ∧
 (0 : Int) = (0 : Int) ∧ I (i - (1 : Int)) ∧ m (i - (1 : Int)) < m i)) ∧
 (¬(0 : Int) ≤ i →
 inI64 ((-1 : Int) + (1 : Int)) ∧
 (0 : Int) ≤ s.snd ∧
 s.snd ≤ (↑text.length : Int) ∧
 (↑text.length : Int) ≤ (↑text.length : Int) ∧
 ((0 : Int) ≤
 Lib.indexByte (List.drop s.snd.toNat (List.take (↑text.length : Int).toNat text))
 (Int.toNat (10 : Int)).toUInt8 →
 inI64
 (Lib.indexByte (List.drop s.snd.toNat (List.take (↑text.length : Int).toNat text))
 (Int.toNat (10 : Int)).toUInt8 +
 (1 : Int)) ∧
 inI64
 (s.snd +
 (Lib.indexByte
 (List.drop s.snd.toNat (List.take (↑text.length : Int).toNat text))
 (Int.toNat (10 : Int)).toUInt8 +
 (1 : Int))) ∧
 ((-1 : Int) + (1 : Int),
 s.snd +
 (Lib.indexByte
 (List.drop s.snd.toNat (List.take (↑text.length : Int).toNat text))
 (Int.toNat (10 : Int)).toUInt8 +
 (1 : Int))) =
 widened text s) ∧
 (¬(0 : Int) ≤
 Lib.indexByte (List.drop s.snd.toNat (List.take (↑text.length : Int).toNat text))
 (Int.toNat (10 : Int)).toUInt8 →
 ((-1 : Int) + (1 : Int), (↑text.length : Int)) = widened text s))) :
 Con Tryd.prog f_spans_Widened spans_Widened_ct := ⟨spans_Widened_ok.able rfl, fun x hx =>
 con_eq hC (L := [(f_strings_LastIndexByte, strings_LastIndexByte_fi), (f_internal_bytealg_LastIndexByteString, internal_bytealg_LastIndexByteString_fi), (f_strings_IndexByte, strings_IndexByte_fi), (f_internal_stringslite_IndexByte, internal_stringslite_IndexByte_fi)]) (⟨strings_LastIndexByte_ok, internal_bytealg_LastIndexByteString_ok, strings_IndexByte_ok, internal_stringslite_IndexByte_ok, trivial⟩) spans_Widened_ok (ct := spans_Widened_ct) (depth := 4) rfl (by kernel_rfl) x (H (@id (List UInt8 × (Int × Int)) x).1 (@id (List UInt8 × (Int × Int)) x).2 (mpr' hx (by kernel_rfl))) (by kernel_rfl)⟩

theorem spans_Widen_vc (hC : Cons Tryd.prog [(f_spans_Widened, spans_Widened_ct)])
 (H : ∀ (text : List UInt8) (s : Int × Int), (fitS text) →
 (600 < (↑text.length : Int) → (0, 0) = (spansWiden text s).fst ∧ 1 = (spansWiden text s).snd) ∧
 (¬600 < (↑text.length : Int) →
 ((s.fst < 0 ∨ s.snd < s.fst) ∨ (↑text.length : Int) < s.snd →
 (0, 0) = (spansWiden text s).fst ∧ 2 = (spansWiden text s).snd) ∧
 (¬((s.fst < 0 ∨ s.snd < s.fst) ∨ (↑text.length : Int) < s.snd) →
 widPre text (s.fst, s.snd) ∧
 ((widened text (s.fst, s.snd)).fst, (widened text (s.fst, s.snd)).snd) = (spansWiden text s).fst ∧
 0 = (spansWiden text s).snd))) :
 Con Tryd.prog f_spans_Widen spans_Widen_ct := ⟨spans_Widen_ok.able rfl, fun x hx =>
 con_eq hC (L := []) (trivial) spans_Widen_ok (ct := spans_Widen_ct) (depth := 0) rfl (by kernel_rfl) x (H (@id (List UInt8 × (Int × Int)) x).1 (@id (List UInt8 × (Int × Int)) x).2 (mpr' hx (by kernel_rfl))) (by kernel_rfl)⟩

theorem poly_Of_vc (hC : Cons Tryd.prog [])
 (H : ∀ (text : List UInt8), (fitS text) →
 ∃ (I : Int → Int → Int → Prop),
 ∃ (m : Int → Int → Int → Nat),
 ((0 : Int) = (0 : Int) ∧ (0 : Int) = (0 : Int) ∧ I (0 : Int) (0 : Int) (1 : Int)) ∧
 ∀ (x h h_1 : Int),
 I x h h_1 →
 (x < (↑text.length : Int) →
 inI64 (h * (257 : Int)) ∧
 (0 : Int) ≤ x ∧
 x < (↑text.length : Int) ∧
 inI64 (h * (257 : Int) + (↑(gt text x).toNat : Int)) ∧
 inI64 (h * (257 : Int) + (↑(gt text x).toNat : Int) + (1 : Int)) ∧
 (2147483647 : Int) ≠ (0 : Int) ∧
 inI64 (h_1 * (257 : Int)) ∧
 (2147483647 : Int) ≠ (0 : Int) ∧
 inI64 (x + (1 : Int)) ∧
 (0 : Int) = (0 : Int) ∧
 (0 : Int) = (0 : Int) ∧
 I (x + (1 : Int))
 ((h * (257 : Int) + (↑(gt text x).toNat : Int) + (1 : Int)).tmod
 (2147483647 : Int))
 ((h_1 * (257 : Int)).tmod (2147483647 : Int)) ∧
 m (x + (1 : Int))
 ((h * (257 : Int) + (↑(gt text x).toNat : Int) + (1 : Int)).tmod
 (2147483647 : Int))
 ((h_1 * (257 : Int)).tmod (2147483647 : Int)) <
 m x h h_1) ∧
 (¬x < (↑text.length : Int) → (h, h_1) = polyOf text)) :
 Con Tryd.prog f_poly_Of poly_Of_ct := ⟨poly_Of_ok.able rfl, fun x hx =>
 con_eq hC (L := []) (trivial) poly_Of_ok (ct := poly_Of_ct) (depth := 0) rfl (by kernel_rfl) x (H (@id (List UInt8) x) (mpr' hx (by kernel_rfl))) (by kernel_rfl)⟩

theorem top_sameInts_vc (hC : Cons Tryd.prog [])
 (H : ∀ (a : List Int) (b : List Int), (fitL a ∧ fitL b) →
 ((↑a.length : Int) ≠ (↑b.length : Int) → false = bo (a = b)) ∧
 (¬(↑a.length : Int) ≠ (↑b.length : Int) →
 ∃ (I : Int → Prop),
 ∃ (m : Int → Nat),
 I 0 ∧
 ∀ (i : Int),
 I i →
 (i < (↑a.length : Int) →
 0 ≤ i ∧
 i < (↑a.length : Int) ∧
 0 ≤ i ∧
 i < (↑b.length : Int) ∧
 (gt a i ≠ gt b i → false = bo (a = b)) ∧
 (¬gt a i ≠ gt b i → inI64 (i + 1) ∧ I (i + 1) ∧ m (i + 1) < m i)) ∧
 (¬i < (↑a.length : Int) → true = bo (a = b)))) :
 Con Tryd.prog f_top_sameInts law_sameInts_ct := ⟨top_sameInts_ok.able rfl, fun x hx =>
 con_eq hC (L := []) (trivial) top_sameInts_ok (ct := law_sameInts_ct) (depth := 0) rfl (by kernel_rfl) x (H (@id (List Int × List Int) x).1 (@id (List Int × List Int) x).2 (mpr' hx (by kernel_rfl))) (by kernel_rfl)⟩

theorem top_TopDirty_vc (hC : Cons Tryd.prog [(f_keep_TextOf, keep_TextOf_ct), (f_keep_EditOf, keep_EditOf_ct), (f_edit_Apply, edit_Apply_ct), (f_spans_Shift, spans_Shift_ct), (f_spans_Widen, spans_Widen_ct), (f_poly_Lines, poly_Lines_ct), (f_top_sameInts, law_sameInts_ct)])
 (H : ∀ (text : List Int) (c : Int × Int × List Int), ((text.length ≤ 140737488351232 ∧ ∀ (x : Int), List.Mem x text → IntKind.i64.min ≤ x ∧ x ≤ IntKind.i64.max) ∧
 (IntKind.i64.min ≤ c.1 ∧ c.1 ≤ IntKind.i64.max) ∧
 (IntKind.i64.min ≤ c.2.1 ∧ c.2.1 ≤ IntKind.i64.max) ∧
 c.2.2.length ≤ 140737488351232 ∧ ∀ (x : Int), List.Mem x c.2.2 → IntKind.i64.min ≤ x ∧ x ≤ IntKind.i64.max) →
 fewPre (text, (100 : Int)) ∧
 chgPre ((c.fst, c.snd.fst, c.snd.snd), (↑(List.length (textOf text (100 : Int))) : Int)) ∧
 editsFit
 [((editOf (c.fst, c.snd.fst, c.snd.snd) (↑(List.length (textOf text (100 : Int))) : Int)).fst,
 (editOf (c.fst, c.snd.fst, c.snd.snd) (↑(List.length (textOf text (100 : Int))) : Int)).snd.fst,
 (editOf (c.fst, c.snd.fst, c.snd.snd) (↑(List.length (textOf text (100 : Int))) : Int)).snd.snd)] ∧
 shFits (↑(List.length (textOf text (100 : Int))) : Int) []
 ((editOf (c.fst, c.snd.fst, c.snd.snd) (↑(List.length (textOf text (100 : Int))) : Int)).fst,
 (editOf (c.fst, c.snd.fst, c.snd.snd) (↑(List.length (textOf text (100 : Int))) : Int)).snd.fst,
 (editOf (c.fst, c.snd.fst, c.snd.snd) (↑(List.length (textOf text (100 : Int))) : Int)).snd.snd) ∧
 (((editApply (textOf text (100 : Int))
 [((editOf (c.fst, c.snd.fst, c.snd.snd) (↑(List.length (textOf text (100 : Int))) : Int)).fst,
 (editOf (c.fst, c.snd.fst, c.snd.snd)
 (↑(List.length (textOf text (100 : Int))) : Int)).snd.fst,
 (editOf (c.fst, c.snd.fst, c.snd.snd)
 (↑(List.length (textOf text (100 : Int))) : Int)).snd.snd)]).snd ≠
 (0 : Int) ∨
 (spansShift (↑(List.length (textOf text (100 : Int))) : Int) []
 ((editOf (c.fst, c.snd.fst, c.snd.snd) (↑(List.length (textOf text (100 : Int))) : Int)).fst,
 (editOf (c.fst, c.snd.fst, c.snd.snd) (↑(List.length (textOf text (100 : Int))) : Int)).snd.fst,
 (editOf (c.fst, c.snd.fst, c.snd.snd)
 (↑(List.length (textOf text (100 : Int))) : Int)).snd.snd)).snd ≠
 (0 : Int)) ∨
 ¬((0 : Int) <
 (↑(spansShift (↑(List.length (textOf text (100 : Int))) : Int) []
 ((editOf (c.fst, c.snd.fst, c.snd.snd)
 (↑(List.length (textOf text (100 : Int))) : Int)).fst,
 (editOf (c.fst, c.snd.fst, c.snd.snd)
 (↑(List.length (textOf text (100 : Int))) : Int)).snd.fst,
 (editOf (c.fst, c.snd.fst, c.snd.snd)
 (↑(List.length (textOf text (100 : Int))) : Int)).snd.snd)).fst.length :
 Int) ↔
 (editOf (c.fst, c.snd.fst, c.snd.snd) (↑(List.length (textOf text (100 : Int))) : Int)).snd.snd ≠
 []) →
 false = true) ∧
 (¬(((editApply (textOf text (100 : Int))
 [((editOf (c.fst, c.snd.fst, c.snd.snd) (↑(List.length (textOf text (100 : Int))) : Int)).fst,
 (editOf (c.fst, c.snd.fst, c.snd.snd)
 (↑(List.length (textOf text (100 : Int))) : Int)).snd.fst,
 (editOf (c.fst, c.snd.fst, c.snd.snd)
 (↑(List.length (textOf text (100 : Int))) : Int)).snd.snd)]).snd ≠
 (0 : Int) ∨
 (spansShift (↑(List.length (textOf text (100 : Int))) : Int) []
 ((editOf (c.fst, c.snd.fst, c.snd.snd) (↑(List.length (textOf text (100 : Int))) : Int)).fst,
 (editOf (c.fst, c.snd.fst, c.snd.snd)
 (↑(List.length (textOf text (100 : Int))) : Int)).snd.fst,
 (editOf (c.fst, c.snd.fst, c.snd.snd)
 (↑(List.length (textOf text (100 : Int))) : Int)).snd.snd)).snd ≠
 (0 : Int)) ∨
 ¬((0 : Int) <
 (↑(spansShift (↑(List.length (textOf text (100 : Int))) : Int) []
 ((editOf (c.fst, c.snd.fst, c.snd.snd)
 (↑(List.length (textOf text (100 : Int))) : Int)).fst,
 (editOf (c.fst, c.snd.fst, c.snd.snd)
 (↑(List.length (textOf text (100 : Int))) : Int)).snd.fst,
 (editOf (c.fst, c.snd.fst, c.snd.snd)
 (↑(List.length (textOf text (100 : Int))) : Int)).snd.snd)).fst.length :
 Int) ↔
 (editOf (c.fst, c.snd.fst, c.snd.snd) (↑(List.length (textOf text (100 : Int))) : Int)).snd.snd ≠
 [])) →
 inI64
 ((editOf (c.fst, c.snd.fst, c.snd.snd) (↑(List.length (textOf text (100 : Int))) : Int)).fst +
 (↑(editOf (c.fst, c.snd.fst, c.snd.snd)
 (↑(List.length (textOf text (100 : Int))) : Int)).snd.snd.length :
 Int)) ∧
 fitS
 (editApply (textOf text (100 : Int))
 [((editOf (c.fst, c.snd.fst, c.snd.snd) (↑(List.length (textOf text (100 : Int))) : Int)).fst,
 (editOf (c.fst, c.snd.fst, c.snd.snd)
 (↑(List.length (textOf text (100 : Int))) : Int)).snd.fst,
 (editOf (c.fst, c.snd.fst, c.snd.snd)
 (↑(List.length (textOf text (100 : Int))) : Int)).snd.snd)]).fst ∧
 inI64
 ((editOf (c.fst, c.snd.fst, c.snd.snd) (↑(List.length (textOf text (100 : Int))) : Int)).fst +
 (editOf (c.fst, c.snd.fst, c.snd.snd) (↑(List.length (textOf text (100 : Int))) : Int)).snd.fst) ∧
 fitS (textOf text (100 : Int)) ∧
 ((spansWiden
 (editApply (textOf text (100 : Int))
 [((editOf (c.fst, c.snd.fst, c.snd.snd)
 (↑(List.length (textOf text (100 : Int))) : Int)).fst,
 (editOf (c.fst, c.snd.fst, c.snd.snd)
 (↑(List.length (textOf text (100 : Int))) : Int)).snd.fst,
 (editOf (c.fst, c.snd.fst, c.snd.snd)
 (↑(List.length (textOf text (100 : Int))) : Int)).snd.snd)]).fst
 ((editOf (c.fst, c.snd.fst, c.snd.snd)
 (↑(List.length (textOf text (100 : Int))) : Int)).fst,
 (editOf (c.fst, c.snd.fst, c.snd.snd)
 (↑(List.length (textOf text (100 : Int))) : Int)).fst +
 (↑(editOf (c.fst, c.snd.fst, c.snd.snd)
 (↑(List.length (textOf text (100 : Int))) : Int)).snd.snd.length :
 Int))).snd ≠
 (0 : Int) ∨
 (spansWiden (textOf text (100 : Int))
 ((editOf (c.fst, c.snd.fst, c.snd.snd)
 (↑(List.length (textOf text (100 : Int))) : Int)).fst,
 (editOf (c.fst, c.snd.fst, c.snd.snd)
 (↑(List.length (textOf text (100 : Int))) : Int)).fst +
 (editOf (c.fst, c.snd.fst, c.snd.snd)
 (↑(List.length (textOf text (100 : Int))) : Int)).snd.fst)).snd ≠
 (0 : Int) →
 false = true) ∧
 (¬((spansWiden
 (editApply (textOf text (100 : Int))
 [((editOf (c.fst, c.snd.fst, c.snd.snd)
 (↑(List.length (textOf text (100 : Int))) : Int)).fst,
 (editOf (c.fst, c.snd.fst, c.snd.snd)
 (↑(List.length (textOf text (100 : Int))) : Int)).snd.fst,
 (editOf (c.fst, c.snd.fst, c.snd.snd)
 (↑(List.length (textOf text (100 : Int))) : Int)).snd.snd)]).fst
 ((editOf (c.fst, c.snd.fst, c.snd.snd)
 (↑(List.length (textOf text (100 : Int))) : Int)).fst,
 (editOf (c.fst, c.snd.fst, c.snd.snd)
 (↑(List.length (textOf text (100 : Int))) : Int)).fst +
 (↑(editOf (c.fst, c.snd.fst, c.snd.snd)
 (↑(List.length (textOf text (100 : Int))) : Int)).snd.snd.length :
 Int))).snd ≠
 (0 : Int) ∨
 (spansWiden (textOf text (100 : Int))
 ((editOf (c.fst, c.snd.fst, c.snd.snd)
 (↑(List.length (textOf text (100 : Int))) : Int)).fst,
 (editOf (c.fst, c.snd.fst, c.snd.snd)
 (↑(List.length (textOf text (100 : Int))) : Int)).fst +
 (editOf (c.fst, c.snd.fst, c.snd.snd)
 (↑(List.length (textOf text (100 : Int))) : Int)).snd.fst)).snd ≠
 (0 : Int)) →
 (0 : Int) ≤ (0 : Int) ∧
 (0 : Int) ≤
 (spansWiden (textOf text (100 : Int))
 ((editOf (c.fst, c.snd.fst, c.snd.snd)
 (↑(List.length (textOf text (100 : Int))) : Int)).fst,
 (editOf (c.fst, c.snd.fst, c.snd.snd)
 (↑(List.length (textOf text (100 : Int))) : Int)).fst +
 (editOf (c.fst, c.snd.fst, c.snd.snd)
 (↑(List.length (textOf text (100 : Int))) : Int)).snd.fst)).fst.fst ∧
 (spansWiden (textOf text (100 : Int))
 ((editOf (c.fst, c.snd.fst, c.snd.snd)
 (↑(List.length (textOf text (100 : Int))) : Int)).fst,
 (editOf (c.fst, c.snd.fst, c.snd.snd)
 (↑(List.length (textOf text (100 : Int))) : Int)).fst +
 (editOf (c.fst, c.snd.fst, c.snd.snd)
 (↑(List.length (textOf text (100 : Int))) : Int)).snd.fst)).fst.fst ≤
 (↑(List.length (textOf text (100 : Int))) : Int) ∧
 True ∧
 (0 : Int) ≤ (0 : Int) ∧
 (0 : Int) ≤
 (spansWiden
 (editApply (textOf text (100 : Int))
 [((editOf (c.fst, c.snd.fst, c.snd.snd)
 (↑(List.length (textOf text (100 : Int))) : Int)).fst,
 (editOf (c.fst, c.snd.fst, c.snd.snd)
 (↑(List.length (textOf text (100 : Int))) : Int)).snd.fst,
 (editOf (c.fst, c.snd.fst, c.snd.snd)
 (↑(List.length (textOf text (100 : Int))) :
 Int)).snd.snd)]).fst
 ((editOf (c.fst, c.snd.fst, c.snd.snd)
 (↑(List.length (textOf text (100 : Int))) : Int)).fst,
 (editOf (c.fst, c.snd.fst, c.snd.snd)
 (↑(List.length (textOf text (100 : Int))) : Int)).fst +
 (↑(editOf (c.fst, c.snd.fst, c.snd.snd)
 (↑(List.length (textOf text (100 : Int))) :
 Int)).snd.snd.length :
 Int))).fst.fst ∧
 (spansWiden
 (editApply (textOf text (100 : Int))
 [((editOf (c.fst, c.snd.fst, c.snd.snd)
 (↑(List.length (textOf text (100 : Int))) : Int)).fst,
 (editOf (c.fst, c.snd.fst, c.snd.snd)
 (↑(List.length (textOf text (100 : Int))) : Int)).snd.fst,
 (editOf (c.fst, c.snd.fst, c.snd.snd)
 (↑(List.length (textOf text (100 : Int))) :
 Int)).snd.snd)]).fst
 ((editOf (c.fst, c.snd.fst, c.snd.snd)
 (↑(List.length (textOf text (100 : Int))) : Int)).fst,
 (editOf (c.fst, c.snd.fst, c.snd.snd)
 (↑(List.length (textOf text (100 : Int))) : Int)).fst +
 (↑(editOf (c.fst, c.snd.fst, c.snd.snd)
 (↑(List.length (textOf text (100 : Int))) :
 Int)).snd.snd.length :
 Int))).fst.fst ≤
 (↑(editApply (textOf text (100 : Int))
 [((editOf (c.fst, c.snd.fst, c.snd.snd)
 (↑(List.length (textOf text (100 : Int))) : Int)).fst,
 (editOf (c.fst, c.snd.fst, c.snd.snd)
 (↑(List.length (textOf text (100 : Int))) : Int)).snd.fst,
 (editOf (c.fst, c.snd.fst, c.snd.snd)
 (↑(List.length (textOf text (100 : Int))) :
 Int)).snd.snd)]).fst.length :
 Int) ∧
 True ∧
 (0 : Int) ≤
 (spansWiden (textOf text (100 : Int))
 ((editOf (c.fst, c.snd.fst, c.snd.snd)
 (↑(List.length (textOf text (100 : Int))) : Int)).fst,
 (editOf (c.fst, c.snd.fst, c.snd.snd)
 (↑(List.length (textOf text (100 : Int))) : Int)).fst +
 (editOf (c.fst, c.snd.fst, c.snd.snd)
 (↑(List.length (textOf text (100 : Int))) :
 Int)).snd.fst)).fst.snd ∧
 (spansWiden (textOf text (100 : Int))
 ((editOf (c.fst, c.snd.fst, c.snd.snd)
 (↑(List.length (textOf text (100 : Int))) : Int)).fst,
 (editOf (c.fst, c.snd.fst, c.snd.snd)
 (↑(List.length (textOf text (100 : Int))) : Int)).fst +
 (editOf (c.fst, c.snd.fst, c.snd.snd)
 (↑(List.length (textOf text (100 : Int))) :
 Int)).snd.fst)).fst.snd ≤
 (↑(List.length (textOf text (100 : Int))) : Int) ∧
 (↑(List.length (textOf text (100 : Int))) : Int) ≤
 (↑(List.length (textOf text (100 : Int))) : Int) ∧
 True ∧
 (0 : Int) ≤
 (spansWiden
 (editApply (textOf text (100 : Int))
 [((editOf (c.fst, c.snd.fst, c.snd.snd)
 (↑(List.length (textOf text (100 : Int))) :
 Int)).fst,
 (editOf (c.fst, c.snd.fst, c.snd.snd)
 (↑(List.length (textOf text (100 : Int))) :
 Int)).snd.fst,
 (editOf (c.fst, c.snd.fst, c.snd.snd)
 (↑(List.length (textOf text (100 : Int))) :
 Int)).snd.snd)]).fst
 ((editOf (c.fst, c.snd.fst, c.snd.snd)
 (↑(List.length (textOf text (100 : Int))) : Int)).fst,
 (editOf (c.fst, c.snd.fst, c.snd.snd)
 (↑(List.length (textOf text (100 : Int))) :
 Int)).fst +
 (↑(editOf (c.fst, c.snd.fst, c.snd.snd)
 (↑(List.length (textOf text (100 : Int))) :
 Int)).snd.snd.length :
 Int))).fst.snd ∧
 (spansWiden
 (editApply (textOf text (100 : Int))
 [((editOf (c.fst, c.snd.fst, c.snd.snd)
 (↑(List.length (textOf text (100 : Int))) :
 Int)).fst,
 (editOf (c.fst, c.snd.fst, c.snd.snd)
 (↑(List.length (textOf text (100 : Int))) :
 Int)).snd.fst,
 (editOf (c.fst, c.snd.fst, c.snd.snd)
 (↑(List.length (textOf text (100 : Int))) :
 Int)).snd.snd)]).fst
 ((editOf (c.fst, c.snd.fst, c.snd.snd)
 (↑(List.length (textOf text (100 : Int))) : Int)).fst,
 (editOf (c.fst, c.snd.fst, c.snd.snd)
 (↑(List.length (textOf text (100 : Int))) :
 Int)).fst +
 (↑(editOf (c.fst, c.snd.fst, c.snd.snd)
 (↑(List.length (textOf text (100 : Int))) :
 Int)).snd.snd.length :
 Int))).fst.snd ≤
 (↑(editApply (textOf text (100 : Int))
 [((editOf (c.fst, c.snd.fst, c.snd.snd)
 (↑(List.length (textOf text (100 : Int))) :
 Int)).fst,
 (editOf (c.fst, c.snd.fst, c.snd.snd)
 (↑(List.length (textOf text (100 : Int))) :
 Int)).snd.fst,
 (editOf (c.fst, c.snd.fst, c.snd.snd)
 (↑(List.length (textOf text (100 : Int))) :
 Int)).snd.snd)]).fst.length :
 Int) ∧
 (↑(editApply (textOf text (100 : Int))
 [((editOf (c.fst, c.snd.fst, c.snd.snd)
 (↑(List.length (textOf text (100 : Int))) :
 Int)).fst,
 (editOf (c.fst, c.snd.fst, c.snd.snd)
 (↑(List.length (textOf text (100 : Int))) :
 Int)).snd.fst,
 (editOf (c.fst, c.snd.fst, c.snd.snd)
 (↑(List.length (textOf text (100 : Int))) :
 Int)).snd.snd)]).fst.length :
 Int) ≤
 (↑(editApply (textOf text (100 : Int))
 [((editOf (c.fst, c.snd.fst, c.snd.snd)
 (↑(List.length (textOf text (100 : Int))) :
 Int)).fst,
 (editOf (c.fst, c.snd.fst, c.snd.snd)
 (↑(List.length (textOf text (100 : Int))) :
 Int)).snd.fst,
 (editOf (c.fst, c.snd.fst, c.snd.snd)
 (↑(List.length (textOf text (100 : Int))) :
 Int)).snd.snd)]).fst.length :
 Int) ∧
 True ∧
 ((((((polyLines
 (List.drop (Int.toNat (0 : Int))
 (List.take
 (spansWiden (textOf text (100 : Int))
 ((editOf
 (c.fst, c.snd.fst,
 c.snd.snd)
 (↑(List.length
 (textOf text
 (100 : Int))) :
 Int)).fst,
 (editOf
 (c.fst, c.snd.fst,
 c.snd.snd)
 (↑(List.length
 (textOf text
 (100 : Int))) :
 Int)).fst +
 (editOf
 (c.fst, c.snd.fst,
 c.snd.snd)
 (↑(List.length
 (textOf text
 (100 :
 Int))) :
 Int)).snd.fst)).fst.fst.toNat
 (textOf text (100 : Int))))).snd =
 (0 : Int) ∧
 (polyLines
 (List.drop (Int.toNat (0 : Int))
 (List.take
 (spansWiden
 (editApply
 (textOf text (100 : Int))
 [((editOf
 (c.fst, c.snd.fst,
 c.snd.snd)
 (↑(List.length
 (textOf text
 (100 :
 Int))) :
 Int)).fst,
 (editOf
 (c.fst, c.snd.fst,
 c.snd.snd)
 (↑(List.length
 (textOf text
 (100 :
 Int))) :
 Int)).snd.fst,
 (editOf
 (c.fst, c.snd.fst,
 c.snd.snd)
 (↑(List.length
 (textOf text
 (100 :
 Int))) :
 Int)).snd.snd)]).fst
 ((editOf
 (c.fst, c.snd.fst,
 c.snd.snd)
 (↑(List.length
 (textOf text
 (100 : Int))) :
 Int)).fst,
 (editOf
 (c.fst, c.snd.fst,
 c.snd.snd)
 (↑(List.length
 (textOf text
 (100 : Int))) :
 Int)).fst +
 (↑(editOf
 (c.fst,
 c.snd.fst,
 c.snd.snd)
 (↑(List.length
 (textOf
 text
 (100 :
 Int))) :
 Int)).snd.snd.length :
 Int))).fst.fst.toNat
 (editApply (textOf text (100 : Int))
 [((editOf
 (c.fst, c.snd.fst,
 c.snd.snd)
 (↑(List.length
 (textOf text
 (100 : Int))) :
 Int)).fst,
 (editOf
 (c.fst, c.snd.fst,
 c.snd.snd)
 (↑(List.length
 (textOf text
 (100 : Int))) :
 Int)).snd.fst,
 (editOf
 (c.fst, c.snd.fst,
 c.snd.snd)
 (↑(List.length
 (textOf text
 (100 : Int))) :
 Int)).snd.snd)]).fst))).snd =
 (0 : Int)) ∧
 (polyLines
 (List.drop
 (spansWiden (textOf text (100 : Int))
 ((editOf
 (c.fst, c.snd.fst, c.snd.snd)
 (↑(List.length
 (textOf text
 (100 : Int))) :
 Int)).fst,
 (editOf
 (c.fst, c.snd.fst,
 c.snd.snd)
 (↑(List.length
 (textOf text
 (100 : Int))) :
 Int)).fst +
 (editOf
 (c.fst, c.snd.fst,
 c.snd.snd)
 (↑(List.length
 (textOf text
 (100 : Int))) :
 Int)).snd.fst)).fst.snd.toNat
 (List.take
 (↑(List.length
 (textOf text (100 : Int))) :
 Int).toNat
 (textOf text (100 : Int))))).snd =
 (0 : Int)) ∧
 (polyLines
 (List.drop
 (spansWiden
 (editApply (textOf text (100 : Int))
 [((editOf
 (c.fst, c.snd.fst,
 c.snd.snd)
 (↑(List.length
 (textOf text
 (100 : Int))) :
 Int)).fst,
 (editOf
 (c.fst, c.snd.fst,
 c.snd.snd)
 (↑(List.length
 (textOf text
 (100 : Int))) :
 Int)).snd.fst,
 (editOf
 (c.fst, c.snd.fst,
 c.snd.snd)
 (↑(List.length
 (textOf text
 (100 : Int))) :
 Int)).snd.snd)]).fst
 ((editOf (c.fst, c.snd.fst, c.snd.snd)
 (↑(List.length
 (textOf text
 (100 : Int))) :
 Int)).fst,
 (editOf
 (c.fst, c.snd.fst, c.snd.snd)
 (↑(List.length
 (textOf text
 (100 : Int))) :
 Int)).fst +
 (↑(editOf
 (c.fst, c.snd.fst,
 c.snd.snd)
 (↑(List.length
 (textOf text
 (100 :
 Int))) :
 Int)).snd.snd.length :
 Int))).fst.snd.toNat
 (List.take
 (↑(editApply (textOf text (100 : Int))
 [((editOf
 (c.fst, c.snd.fst,
 c.snd.snd)
 (↑(List.length
 (textOf text
 (100 : Int))) :
 Int)).fst,
 (editOf
 (c.fst, c.snd.fst,
 c.snd.snd)
 (↑(List.length
 (textOf text
 (100 :
 Int))) :
 Int)).snd.fst,
 (editOf
 (c.fst, c.snd.fst,
 c.snd.snd)
 (↑(List.length
 (textOf text
 (100 :
 Int))) :
 Int)).snd.snd)]).fst.length :
 Int).toNat
 (editApply (textOf text (100 : Int))
 [((editOf (c.fst, c.snd.fst, c.snd.snd)
 (↑(List.length
 (textOf text
 (100 : Int))) :
 Int)).fst,
 (editOf
 (c.fst, c.snd.fst, c.snd.snd)
 (↑(List.length
 (textOf text
 (100 : Int))) :
 Int)).snd.fst,
 (editOf
 (c.fst, c.snd.fst, c.snd.snd)
 (↑(List.length
 (textOf text
 (100 : Int))) :
 Int)).snd.snd)]).fst))).snd =
 (0 : Int)) ∧
 (0 : Int) <
 (↑(polyLines
 (List.drop (Int.toNat (0 : Int))
 (List.take
 (spansWiden (textOf text (100 : Int))
 ((editOf
 (c.fst, c.snd.fst,
 c.snd.snd)
 (↑(List.length
 (textOf text
 (100 : Int))) :
 Int)).fst,
 (editOf
 (c.fst, c.snd.fst,
 c.snd.snd)
 (↑(List.length
 (textOf text
 (100 : Int))) :
 Int)).fst +
 (editOf
 (c.fst, c.snd.fst,
 c.snd.snd)
 (↑(List.length
 (textOf text
 (100 :
 Int))) :
 Int)).snd.fst)).fst.fst.toNat
 (textOf text
 (100 : Int))))).fst.length :
 Int)) ∧
 (0 : Int) <
 (↑(polyLines
 (List.drop
 (spansWiden (textOf text (100 : Int))
 ((editOf
 (c.fst, c.snd.fst, c.snd.snd)
 (↑(List.length
 (textOf text
 (100 : Int))) :
 Int)).fst,
 (editOf
 (c.fst, c.snd.fst,
 c.snd.snd)
 (↑(List.length
 (textOf text
 (100 : Int))) :
 Int)).fst +
 (editOf
 (c.fst, c.snd.fst,
 c.snd.snd)
 (↑(List.length
 (textOf text
 (100 : Int))) :
 Int)).snd.fst)).fst.snd.toNat
 (List.take
 (↑(List.length
 (textOf text (100 : Int))) :
 Int).toNat
 (textOf text (100 : Int))))).fst.length :
 Int) →
 fitL
 (polyLines
 (List.drop (Int.toNat (0 : Int))
 (List.take
 (spansWiden (textOf text (100 : Int))
 ((editOf (c.fst, c.snd.fst, c.snd.snd)
 (↑(List.length
 (textOf text (100 : Int))) :
 Int)).fst,
 (editOf (c.fst, c.snd.fst, c.snd.snd)
 (↑(List.length
 (textOf text
 (100 : Int))) :
 Int)).fst +
 (editOf
 (c.fst, c.snd.fst, c.snd.snd)
 (↑(List.length
 (textOf text
 (100 : Int))) :
 Int)).snd.fst)).fst.fst.toNat
 (textOf text (100 : Int))))).fst ∧
 fitL
 (polyLines
 (List.drop (Int.toNat (0 : Int))
 (List.take
 (spansWiden
 (editApply (textOf text (100 : Int))
 [((editOf
 (c.fst, c.snd.fst,
 c.snd.snd)
 (↑(List.length
 (textOf text
 (100 : Int))) :
 Int)).fst,
 (editOf
 (c.fst, c.snd.fst,
 c.snd.snd)
 (↑(List.length
 (textOf text
 (100 : Int))) :
 Int)).snd.fst,
 (editOf
 (c.fst, c.snd.fst,
 c.snd.snd)
 (↑(List.length
 (textOf text
 (100 : Int))) :
 Int)).snd.snd)]).fst
 ((editOf (c.fst, c.snd.fst, c.snd.snd)
 (↑(List.length
 (textOf text (100 : Int))) :
 Int)).fst,
 (editOf (c.fst, c.snd.fst, c.snd.snd)
 (↑(List.length
 (textOf text
 (100 : Int))) :
 Int)).fst +
 (↑(editOf
 (c.fst, c.snd.fst,
 c.snd.snd)
 (↑(List.length
 (textOf text
 (100 : Int))) :
 Int)).snd.snd.length :
 Int))).fst.fst.toNat
 (editApply (textOf text (100 : Int))
 [((editOf (c.fst, c.snd.fst, c.snd.snd)
 (↑(List.length
 (textOf text (100 : Int))) :
 Int)).fst,
 (editOf (c.fst, c.snd.fst, c.snd.snd)
 (↑(List.length
 (textOf text (100 : Int))) :
 Int)).snd.fst,
 (editOf (c.fst, c.snd.fst, c.snd.snd)
 (↑(List.length
 (textOf text (100 : Int))) :
 Int)).snd.snd)]).fst))).fst) ∧
 (((((((polyLines
 (List.drop (Int.toNat (0 : Int))
 (List.take
 (spansWiden
 (textOf text (100 : Int))
 ((editOf
 (c.fst, c.snd.fst,
 c.snd.snd)
 (↑(List.length
 (textOf text
 (100 :
 Int))) :
 Int)).fst,
 (editOf
 (c.fst, c.snd.fst,
 c.snd.snd)
 (↑(List.length
 (textOf text
 (100 :
 Int))) :
 Int)).fst +
 (editOf
 (c.fst, c.snd.fst,
 c.snd.snd)
 (↑(List.length
 (textOf text
 (100 :
 Int))) :
 Int)).snd.fst)).fst.fst.toNat
 (textOf text (100 : Int))))).snd =
 (0 : Int) ∧
 (polyLines
 (List.drop (Int.toNat (0 : Int))
 (List.take
 (spansWiden
 (editApply
 (textOf text
 (100 : Int))
 [((editOf
 (c.fst,
 c.snd.fst,
 c.snd.snd)
 (↑(List.length
 (textOf
 text
 (100 :
 Int))) :
 Int)).fst,
 (editOf
 (c.fst,
 c.snd.fst,
 c.snd.snd)
 (↑(List.length
 (textOf
 text
 (100 :
 Int))) :
 Int)).snd.fst,
 (editOf
 (c.fst,
 c.snd.fst,
 c.snd.snd)
 (↑(List.length
 (textOf
 text
 (100 :
 Int))) :
 Int)).snd.snd)]).fst
 ((editOf
 (c.fst, c.snd.fst,
 c.snd.snd)
 (↑(List.length
 (textOf text
 (100 :
 Int))) :
 Int)).fst,
 (editOf
 (c.fst, c.snd.fst,
 c.snd.snd)
 (↑(List.length
 (textOf text
 (100 :
 Int))) :
 Int)).fst +
 (↑(editOf
 (c.fst,
 c.snd.fst,
 c.snd.snd)
 (↑(List.length
 (textOf
 text
 (100 :
 Int))) :
 Int)).snd.snd.length :
 Int))).fst.fst.toNat
 (editApply (textOf text (100 : Int))
 [((editOf
 (c.fst, c.snd.fst,
 c.snd.snd)
 (↑(List.length
 (textOf text
 (100 : Int))) :
 Int)).fst,
 (editOf
 (c.fst, c.snd.fst,
 c.snd.snd)
 (↑(List.length
 (textOf text
 (100 :
 Int))) :
 Int)).snd.fst,
 (editOf
 (c.fst, c.snd.fst,
 c.snd.snd)
 (↑(List.length
 (textOf text
 (100 :
 Int))) :
 Int)).snd.snd)]).fst))).snd =
 (0 : Int)) ∧
 (polyLines
 (List.drop
 (spansWiden (textOf text (100 : Int))
 ((editOf
 (c.fst, c.snd.fst,
 c.snd.snd)
 (↑(List.length
 (textOf text
 (100 : Int))) :
 Int)).fst,
 (editOf
 (c.fst, c.snd.fst,
 c.snd.snd)
 (↑(List.length
 (textOf text
 (100 : Int))) :
 Int)).fst +
 (editOf
 (c.fst, c.snd.fst,
 c.snd.snd)
 (↑(List.length
 (textOf text
 (100 :
 Int))) :
 Int)).snd.fst)).fst.snd.toNat
 (List.take
 (↑(List.length
 (textOf text (100 : Int))) :
 Int).toNat
 (textOf text (100 : Int))))).snd =
 (0 : Int)) ∧
 (polyLines
 (List.drop
 (spansWiden
 (editApply
 (textOf text (100 : Int))
 [((editOf
 (c.fst, c.snd.fst,
 c.snd.snd)
 (↑(List.length
 (textOf text
 (100 :
 Int))) :
 Int)).fst,
 (editOf
 (c.fst, c.snd.fst,
 c.snd.snd)
 (↑(List.length
 (textOf text
 (100 :
 Int))) :
 Int)).snd.fst,
 (editOf
 (c.fst, c.snd.fst,
 c.snd.snd)
 (↑(List.length
 (textOf text
 (100 :
 Int))) :
 Int)).snd.snd)]).fst
 ((editOf
 (c.fst, c.snd.fst,
 c.snd.snd)
 (↑(List.length
 (textOf text
 (100 : Int))) :
 Int)).fst,
 (editOf
 (c.fst, c.snd.fst,
 c.snd.snd)
 (↑(List.length
 (textOf text
 (100 : Int))) :
 Int)).fst +
 (↑(editOf
 (c.fst, c.snd.fst,
 c.snd.snd)
 (↑(List.length
 (textOf text
 (100 :
 Int))) :
 Int)).snd.snd.length :
 Int))).fst.snd.toNat
 (List.take
 (↑(editApply (textOf text (100 : Int))
 [((editOf
 (c.fst, c.snd.fst,
 c.snd.snd)
 (↑(List.length
 (textOf text
 (100 :
 Int))) :
 Int)).fst,
 (editOf
 (c.fst, c.snd.fst,
 c.snd.snd)
 (↑(List.length
 (textOf text
 (100 :
 Int))) :
 Int)).snd.fst,
 (editOf
 (c.fst, c.snd.fst,
 c.snd.snd)
 (↑(List.length
 (textOf text
 (100 :
 Int))) :
 Int)).snd.snd)]).fst.length :
 Int).toNat
 (editApply (textOf text (100 : Int))
 [((editOf
 (c.fst, c.snd.fst,
 c.snd.snd)
 (↑(List.length
 (textOf text
 (100 : Int))) :
 Int)).fst,
 (editOf
 (c.fst, c.snd.fst,
 c.snd.snd)
 (↑(List.length
 (textOf text
 (100 : Int))) :
 Int)).snd.fst,
 (editOf
 (c.fst, c.snd.fst,
 c.snd.snd)
 (↑(List.length
 (textOf text
 (100 : Int))) :
 Int)).snd.snd)]).fst))).snd =
 (0 : Int)) ∧
 (0 : Int) <
 (↑(polyLines
 (List.drop (Int.toNat (0 : Int))
 (List.take
 (spansWiden
 (textOf text (100 : Int))
 ((editOf
 (c.fst, c.snd.fst,
 c.snd.snd)
 (↑(List.length
 (textOf text
 (100 :
 Int))) :
 Int)).fst,
 (editOf
 (c.fst, c.snd.fst,
 c.snd.snd)
 (↑(List.length
 (textOf text
 (100 :
 Int))) :
 Int)).fst +
 (editOf
 (c.fst, c.snd.fst,
 c.snd.snd)
 (↑(List.length
 (textOf text
 (100 :
 Int))) :
 Int)).snd.fst)).fst.fst.toNat
 (textOf text
 (100 : Int))))).fst.length :
 Int)) ∧
 (0 : Int) <
 (↑(polyLines
 (List.drop
 (spansWiden (textOf text (100 : Int))
 ((editOf
 (c.fst, c.snd.fst,
 c.snd.snd)
 (↑(List.length
 (textOf text
 (100 : Int))) :
 Int)).fst,
 (editOf
 (c.fst, c.snd.fst,
 c.snd.snd)
 (↑(List.length
 (textOf text
 (100 : Int))) :
 Int)).fst +
 (editOf
 (c.fst, c.snd.fst,
 c.snd.snd)
 (↑(List.length
 (textOf text
 (100 :
 Int))) :
 Int)).snd.fst)).fst.snd.toNat
 (List.take
 (↑(List.length
 (textOf text (100 : Int))) :
 Int).toNat
 (textOf text
 (100 : Int))))).fst.length :
 Int)) ∧
 bo
 ((polyLines
 (List.drop (Int.toNat (0 : Int))
 (List.take
 (spansWiden (textOf text (100 : Int))
 ((editOf
 (c.fst, c.snd.fst,
 c.snd.snd)
 (↑(List.length
 (textOf text
 (100 : Int))) :
 Int)).fst,
 (editOf
 (c.fst, c.snd.fst,
 c.snd.snd)
 (↑(List.length
 (textOf text
 (100 : Int))) :
 Int)).fst +
 (editOf
 (c.fst, c.snd.fst,
 c.snd.snd)
 (↑(List.length
 (textOf text
 (100 : Int))) :
 Int)).snd.fst)).fst.fst.toNat
 (textOf text (100 : Int))))).fst =
 (polyLines
 (List.drop (Int.toNat (0 : Int))
 (List.take
 (spansWiden
 (editApply
 (textOf text (100 : Int))
 [((editOf
 (c.fst, c.snd.fst,
 c.snd.snd)
 (↑(List.length
 (textOf text
 (100 :
 Int))) :
 Int)).fst,
 (editOf
 (c.fst, c.snd.fst,
 c.snd.snd)
 (↑(List.length
 (textOf text
 (100 :
 Int))) :
 Int)).snd.fst,
 (editOf
 (c.fst, c.snd.fst,
 c.snd.snd)
 (↑(List.length
 (textOf text
 (100 :
 Int))) :
 Int)).snd.snd)]).fst
 ((editOf
 (c.fst, c.snd.fst,
 c.snd.snd)
 (↑(List.length
 (textOf text
 (100 : Int))) :
 Int)).fst,
 (editOf
 (c.fst, c.snd.fst,
 c.snd.snd)
 (↑(List.length
 (textOf text
 (100 : Int))) :
 Int)).fst +
 (↑(editOf
 (c.fst, c.snd.fst,
 c.snd.snd)
 (↑(List.length
 (textOf text
 (100 :
 Int))) :
 Int)).snd.snd.length :
 Int))).fst.fst.toNat
 (editApply (textOf text (100 : Int))
 [((editOf
 (c.fst, c.snd.fst, c.snd.snd)
 (↑(List.length
 (textOf text
 (100 : Int))) :
 Int)).fst,
 (editOf
 (c.fst, c.snd.fst,
 c.snd.snd)
 (↑(List.length
 (textOf text
 (100 : Int))) :
 Int)).snd.fst,
 (editOf
 (c.fst, c.snd.fst,
 c.snd.snd)
 (↑(List.length
 (textOf text
 (100 : Int))) :
 Int)).snd.snd)]).fst))).fst) =
 true →
 fitL
 (polyLines
 (List.drop
 (spansWiden (textOf text (100 : Int))
 ((editOf (c.fst, c.snd.fst, c.snd.snd)
 (↑(List.length
 (textOf text (100 : Int))) :
 Int)).fst,
 (editOf (c.fst, c.snd.fst, c.snd.snd)
 (↑(List.length
 (textOf text
 (100 : Int))) :
 Int)).fst +
 (editOf
 (c.fst, c.snd.fst, c.snd.snd)
 (↑(List.length
 (textOf text
 (100 : Int))) :
 Int)).snd.fst)).fst.snd.toNat
 (List.take
 (↑(List.length (textOf text (100 : Int))) :
 Int).toNat
 (textOf text (100 : Int))))).fst ∧
 fitL
 (polyLines
 (List.drop
 (spansWiden
 (editApply (textOf text (100 : Int))
 [((editOf
 (c.fst, c.snd.fst,
 c.snd.snd)
 (↑(List.length
 (textOf text
 (100 : Int))) :
 Int)).fst,
 (editOf
 (c.fst, c.snd.fst,
 c.snd.snd)
 (↑(List.length
 (textOf text
 (100 : Int))) :
 Int)).snd.fst,
 (editOf
 (c.fst, c.snd.fst,
 c.snd.snd)
 (↑(List.length
 (textOf text
 (100 : Int))) :
 Int)).snd.snd)]).fst
 ((editOf (c.fst, c.snd.fst, c.snd.snd)
 (↑(List.length
 (textOf text (100 : Int))) :
 Int)).fst,
 (editOf (c.fst, c.snd.fst, c.snd.snd)
 (↑(List.length
 (textOf text
 (100 : Int))) :
 Int)).fst +
 (↑(editOf
 (c.fst, c.snd.fst,
 c.snd.snd)
 (↑(List.length
 (textOf text
 (100 : Int))) :
 Int)).snd.snd.length :
 Int))).fst.snd.toNat
 (List.take
 (↑(editApply (textOf text (100 : Int))
 [((editOf
 (c.fst, c.snd.fst,
 c.snd.snd)
 (↑(List.length
 (textOf text
 (100 : Int))) :
 Int)).fst,
 (editOf
 (c.fst, c.snd.fst,
 c.snd.snd)
 (↑(List.length
 (textOf text
 (100 : Int))) :
 Int)).snd.fst,
 (editOf
 (c.fst, c.snd.fst,
 c.snd.snd)
 (↑(List.length
 (textOf text
 (100 : Int))) :
 Int)).snd.snd)]).fst.length :
 Int).toNat
 (editApply (textOf text (100 : Int))
 [((editOf (c.fst, c.snd.fst, c.snd.snd)
 (↑(List.length
 (textOf text (100 : Int))) :
 Int)).fst,
 (editOf (c.fst, c.snd.fst, c.snd.snd)
 (↑(List.length
 (textOf text
 (100 : Int))) :
 Int)).snd.fst,
 (editOf (c.fst, c.snd.fst, c.snd.snd)
 (↑(List.length
 (textOf text
 (100 : Int))) :
 Int)).snd.snd)]).fst))).fst) ∧
 bo
 ((((((((polyLines
 (List.drop (Int.toNat (0 : Int))
 (List.take
 (spansWiden
 (textOf text
 (100 : Int))
 ((editOf
 (c.fst, c.snd.fst,
 c.snd.snd)
 (↑(List.length
 (textOf text
 (100 :
 Int))) :
 Int)).fst,
 (editOf
 (c.fst,
 c.snd.fst,
 c.snd.snd)
 (↑(List.length
 (textOf
 text
 (100 :
 Int))) :
 Int)).fst +
 (editOf
 (c.fst,
 c.snd.fst,
 c.snd.snd)
 (↑(List.length
 (textOf
 text
 (100 :
 Int))) :
 Int)).snd.fst)).fst.fst.toNat
 (textOf text
 (100 : Int))))).snd =
 (0 : Int) ∧
 (polyLines
 (List.drop (Int.toNat (0 : Int))
 (List.take
 (spansWiden
 (editApply
 (textOf text
 (100 : Int))
 [((editOf
 (c.fst,
 c.snd.fst,
 c.snd.snd)
 (↑(List.length
 (textOf
 text
 (100 :
 Int))) :
 Int)).fst,
 (editOf
 (c.fst,
 c.snd.fst,
 c.snd.snd)
 (↑(List.length
 (textOf
 text
 (100 :
 Int))) :
 Int)).snd.fst,
 (editOf
 (c.fst,
 c.snd.fst,
 c.snd.snd)
 (↑(List.length
 (textOf
 text
 (100 :
 Int))) :
 Int)).snd.snd)]).fst
 ((editOf
 (c.fst, c.snd.fst,
 c.snd.snd)
 (↑(List.length
 (textOf text
 (100 :
 Int))) :
 Int)).fst,
 (editOf
 (c.fst,
 c.snd.fst,
 c.snd.snd)
 (↑(List.length
 (textOf
 text
 (100 :
 Int))) :
 Int)).fst +
 (↑(editOf
 (c.fst,
 c.snd.fst,
 c.snd.snd)
 (↑(List.length
 (textOf
 text
 (100 :
 Int))) :
 Int)).snd.snd.length :
 Int))).fst.fst.toNat
 (editApply
 (textOf text (100 : Int))
 [((editOf
 (c.fst, c.snd.fst,
 c.snd.snd)
 (↑(List.length
 (textOf text
 (100 :
 Int))) :
 Int)).fst,
 (editOf
 (c.fst, c.snd.fst,
 c.snd.snd)
 (↑(List.length
 (textOf text
 (100 :
 Int))) :
 Int)).snd.fst,
 (editOf
 (c.fst, c.snd.fst,
 c.snd.snd)
 (↑(List.length
 (textOf text
 (100 :
 Int))) :
 Int)).snd.snd)]).fst))).snd =
 (0 : Int)) ∧
 (polyLines
 (List.drop
 (spansWiden
 (textOf text (100 : Int))
 ((editOf
 (c.fst, c.snd.fst,
 c.snd.snd)
 (↑(List.length
 (textOf text
 (100 :
 Int))) :
 Int)).fst,
 (editOf
 (c.fst, c.snd.fst,
 c.snd.snd)
 (↑(List.length
 (textOf text
 (100 :
 Int))) :
 Int)).fst +
 (editOf
 (c.fst, c.snd.fst,
 c.snd.snd)
 (↑(List.length
 (textOf text
 (100 :
 Int))) :
 Int)).snd.fst)).fst.snd.toNat
 (List.take
 (↑(List.length
 (textOf text
 (100 : Int))) :
 Int).toNat
 (textOf text (100 : Int))))).snd =
 (0 : Int)) ∧
 (polyLines
 (List.drop
 (spansWiden
 (editApply
 (textOf text (100 : Int))
 [((editOf
 (c.fst, c.snd.fst,
 c.snd.snd)
 (↑(List.length
 (textOf text
 (100 :
 Int))) :
 Int)).fst,
 (editOf
 (c.fst,
 c.snd.fst,
 c.snd.snd)
 (↑(List.length
 (textOf
 text
 (100 :
 Int))) :
 Int)).snd.fst,
 (editOf
 (c.fst,
 c.snd.fst,
 c.snd.snd)
 (↑(List.length
 (textOf
 text
 (100 :
 Int))) :
 Int)).snd.snd)]).fst
 ((editOf
 (c.fst, c.snd.fst,
 c.snd.snd)
 (↑(List.length
 (textOf text
 (100 : Int))) :
 Int)).fst,
 (editOf
 (c.fst, c.snd.fst,
 c.snd.snd)
 (↑(List.length
 (textOf text
 (100 :
 Int))) :
 Int)).fst +
 (↑(editOf
 (c.fst,
 c.snd.fst,
 c.snd.snd)
 (↑(List.length
 (textOf
 text
 (100 :
 Int))) :
 Int)).snd.snd.length :
 Int))).fst.snd.toNat
 (List.take
 (↑(editApply
 (textOf text
 (100 : Int))
 [((editOf
 (c.fst,
 c.snd.fst,
 c.snd.snd)
 (↑(List.length
 (textOf
 text
 (100 :
 Int))) :
 Int)).fst,
 (editOf
 (c.fst,
 c.snd.fst,
 c.snd.snd)
 (↑(List.length
 (textOf
 text
 (100 :
 Int))) :
 Int)).snd.fst,
 (editOf
 (c.fst,
 c.snd.fst,
 c.snd.snd)
 (↑(List.length
 (textOf
 text
 (100 :
 Int))) :
 Int)).snd.snd)]).fst.length :
 Int).toNat
 (editApply (textOf text (100 : Int))
 [((editOf
 (c.fst, c.snd.fst,
 c.snd.snd)
 (↑(List.length
 (textOf text
 (100 : Int))) :
 Int)).fst,
 (editOf
 (c.fst, c.snd.fst,
 c.snd.snd)
 (↑(List.length
 (textOf text
 (100 :
 Int))) :
 Int)).snd.fst,
 (editOf
 (c.fst, c.snd.fst,
 c.snd.snd)
 (↑(List.length
 (textOf text
 (100 :
 Int))) :
 Int)).snd.snd)]).fst))).snd =
 (0 : Int)) ∧
 (0 : Int) <
 (↑(polyLines
 (List.drop (Int.toNat (0 : Int))
 (List.take
 (spansWiden
 (textOf text
 (100 : Int))
 ((editOf
 (c.fst, c.snd.fst,
 c.snd.snd)
 (↑(List.length
 (textOf text
 (100 :
 Int))) :
 Int)).fst,
 (editOf
 (c.fst,
 c.snd.fst,
 c.snd.snd)
 (↑(List.length
 (textOf
 text
 (100 :
 Int))) :
 Int)).fst +
 (editOf
 (c.fst,
 c.snd.fst,
 c.snd.snd)
 (↑(List.length
 (textOf
 text
 (100 :
 Int))) :
 Int)).snd.fst)).fst.fst.toNat
 (textOf text
 (100 : Int))))).fst.length :
 Int)) ∧
 (0 : Int) <
 (↑(polyLines
 (List.drop
 (spansWiden
 (textOf text (100 : Int))
 ((editOf
 (c.fst, c.snd.fst,
 c.snd.snd)
 (↑(List.length
 (textOf text
 (100 :
 Int))) :
 Int)).fst,
 (editOf
 (c.fst, c.snd.fst,
 c.snd.snd)
 (↑(List.length
 (textOf text
 (100 :
 Int))) :
 Int)).fst +
 (editOf
 (c.fst, c.snd.fst,
 c.snd.snd)
 (↑(List.length
 (textOf text
 (100 :
 Int))) :
 Int)).snd.fst)).fst.snd.toNat
 (List.take
 (↑(List.length
 (textOf text
 (100 : Int))) :
 Int).toNat
 (textOf text
 (100 : Int))))).fst.length :
 Int)) ∧
 bo
 ((polyLines
 (List.drop (Int.toNat (0 : Int))
 (List.take
 (spansWiden (textOf text (100 : Int))
 ((editOf
 (c.fst, c.snd.fst,
 c.snd.snd)
 (↑(List.length
 (textOf text
 (100 : Int))) :
 Int)).fst,
 (editOf
 (c.fst, c.snd.fst,
 c.snd.snd)
 (↑(List.length
 (textOf text
 (100 :
 Int))) :
 Int)).fst +
 (editOf
 (c.fst, c.snd.fst,
 c.snd.snd)
 (↑(List.length
 (textOf text
 (100 :
 Int))) :
 Int)).snd.fst)).fst.fst.toNat
 (textOf text (100 : Int))))).fst =
 (polyLines
 (List.drop (Int.toNat (0 : Int))
 (List.take
 (spansWiden
 (editApply
 (textOf text (100 : Int))
 [((editOf
 (c.fst, c.snd.fst,
 c.snd.snd)
 (↑(List.length
 (textOf text
 (100 :
 Int))) :
 Int)).fst,
 (editOf
 (c.fst,
 c.snd.fst,
 c.snd.snd)
 (↑(List.length
 (textOf
 text
 (100 :
 Int))) :
 Int)).snd.fst,
 (editOf
 (c.fst,
 c.snd.fst,
 c.snd.snd)
 (↑(List.length
 (textOf
 text
 (100 :
 Int))) :
 Int)).snd.snd)]).fst
 ((editOf
 (c.fst, c.snd.fst,
 c.snd.snd)
 (↑(List.length
 (textOf text
 (100 : Int))) :
 Int)).fst,
 (editOf
 (c.fst, c.snd.fst,
 c.snd.snd)
 (↑(List.length
 (textOf text
 (100 :
 Int))) :
 Int)).fst +
 (↑(editOf
 (c.fst,
 c.snd.fst,
 c.snd.snd)
 (↑(List.length
 (textOf
 text
 (100 :
 Int))) :
 Int)).snd.snd.length :
 Int))).fst.fst.toNat
 (editApply (textOf text (100 : Int))
 [((editOf
 (c.fst, c.snd.fst,
 c.snd.snd)
 (↑(List.length
 (textOf text
 (100 : Int))) :
 Int)).fst,
 (editOf
 (c.fst, c.snd.fst,
 c.snd.snd)
 (↑(List.length
 (textOf text
 (100 : Int))) :
 Int)).snd.fst,
 (editOf
 (c.fst, c.snd.fst,
 c.snd.snd)
 (↑(List.length
 (textOf text
 (100 : Int))) :
 Int)).snd.snd)]).fst))).fst) =
 true) ∧
 bo
 ((polyLines
 (List.drop
 (spansWiden (textOf text (100 : Int))
 ((editOf
 (c.fst, c.snd.fst,
 c.snd.snd)
 (↑(List.length
 (textOf text
 (100 : Int))) :
 Int)).fst,
 (editOf
 (c.fst, c.snd.fst,
 c.snd.snd)
 (↑(List.length
 (textOf text
 (100 : Int))) :
 Int)).fst +
 (editOf
 (c.fst, c.snd.fst,
 c.snd.snd)
 (↑(List.length
 (textOf text
 (100 : Int))) :
 Int)).snd.fst)).fst.snd.toNat
 (List.take
 (↑(List.length
 (textOf text (100 : Int))) :
 Int).toNat
 (textOf text (100 : Int))))).fst =
 (polyLines
 (List.drop
 (spansWiden
 (editApply
 (textOf text (100 : Int))
 [((editOf
 (c.fst, c.snd.fst,
 c.snd.snd)
 (↑(List.length
 (textOf text
 (100 :
 Int))) :
 Int)).fst,
 (editOf
 (c.fst, c.snd.fst,
 c.snd.snd)
 (↑(List.length
 (textOf text
 (100 :
 Int))) :
 Int)).snd.fst,
 (editOf
 (c.fst, c.snd.fst,
 c.snd.snd)
 (↑(List.length
 (textOf text
 (100 :
 Int))) :
 Int)).snd.snd)]).fst
 ((editOf
 (c.fst, c.snd.fst,
 c.snd.snd)
 (↑(List.length
 (textOf text
 (100 : Int))) :
 Int)).fst,
 (editOf
 (c.fst, c.snd.fst,
 c.snd.snd)
 (↑(List.length
 (textOf text
 (100 : Int))) :
 Int)).fst +
 (↑(editOf
 (c.fst, c.snd.fst,
 c.snd.snd)
 (↑(List.length
 (textOf text
 (100 :
 Int))) :
 Int)).snd.snd.length :
 Int))).fst.snd.toNat
 (List.take
 (↑(editApply (textOf text (100 : Int))
 [((editOf
 (c.fst, c.snd.fst,
 c.snd.snd)
 (↑(List.length
 (textOf text
 (100 :
 Int))) :
 Int)).fst,
 (editOf
 (c.fst, c.snd.fst,
 c.snd.snd)
 (↑(List.length
 (textOf text
 (100 :
 Int))) :
 Int)).snd.fst,
 (editOf
 (c.fst, c.snd.fst,
 c.snd.snd)
 (↑(List.length
 (textOf text
 (100 :
 Int))) :
 Int)).snd.snd)]).fst.length :
 Int).toNat
 (editApply (textOf text (100 : Int))
 [((editOf
 (c.fst, c.snd.fst,
 c.snd.snd)
 (↑(List.length
 (textOf text
 (100 : Int))) :
 Int)).fst,
 (editOf
 (c.fst, c.snd.fst,
 c.snd.snd)
 (↑(List.length
 (textOf text
 (100 : Int))) :
 Int)).snd.fst,
 (editOf
 (c.fst, c.snd.fst,
 c.snd.snd)
 (↑(List.length
 (textOf text
 (100 : Int))) :
 Int)).snd.snd)]).fst))).fst) =
 true) =
 true))) :
 Con Tryd.prog f_top_TopDirty law_TopDirty_ct := ⟨top_TopDirty_ok.able rfl, fun x hx =>
 con_eq hC (L := []) (trivial) top_TopDirty_ok (ct := law_TopDirty_ct) (depth := 0) rfl (by kernel_rfl) x (H (@id (List Int × (Int × Int × List Int)) x).1 (@id (List Int × (Int × Int × List Int)) x).2 (mpr' hx (by kernel_rfl))) (by kernel_rfl)⟩

end Go.Proofs.YtakkifkpihdcnaaDoor
