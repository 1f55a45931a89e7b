/- The typed conditions of the functions, printed by a program of the claim's author; each gives the contract of its function. Conditions: none. -/
import Derived.Test.YtogjhebilbbdjaaGSpansShifts
import Derived.Test.YtogjhebilbbdjaaVpA
import Derived.Test.YtogjhebilbbdjaaVpB
import Derived.Test.YtogjhebilbbdjaaVpC
import Derived.Test.YtogjhebilbbdjaaVpE
import Derived.Test.YtogjhebilbbdjaaVpJ
import Derived.Test.YtogjhebilbbdjaaVpP
import Derived.Test.YtogjhebilbbdjaaVpR
import Derived.Test.YtogjhebilbbdjaaVpRJ
import Derived.Test.YtogjhebilbbdjaaVpRS
import Derived.Test.YtogjhebilbbdjaaInsG
import Derived.Test.YtogjhebilbbdjaaBase
set_option linter.unusedVariables false
set_option linter.unusedSimpArgs false
set_option maxRecDepth 100000
namespace Go.Proofs.Ytogjhebilbbdjaa
open Go.Vc Go.Fu

theorem spans_May_vc (hC : Cons Try.prog [])
 (H : ∀ (size : Int) (l : List (Int × Int)), (fitL l) →
 ((size < 0 ∨ 600 < size) ∨ 40 < (↑l.length : Int) → false = bo (spansOk size l)) ∧
 (¬((size < 0 ∨ 600 < size) ∨ 40 < (↑l.length : Int)) →
 ∃ (I : Int → Int → Prop),
 ∃ (m : Int → Int → Nat),
 I (-1) 0 ∧
 ∀ (last x : Int),
 I last x →
 (x < (↑l.length : Int) →
 0 ≤ x ∧
 x < (↑l.length : Int) ∧
 (((gt l x).fst ≤ last ∨ (gt l x).snd ≤ (gt l x).fst) ∨ size < (gt l x).snd →
 false = bo (spansOk size l)) ∧
 (¬(((gt l x).fst ≤ last ∨ (gt l x).snd ≤ (gt l x).fst) ∨ size < (gt l x).snd) →
 inI64 (x + 1) ∧ I (gt l x).snd (x + 1) ∧ m (gt l x).snd (x + 1) < m last x)) ∧
 (¬x < (↑l.length : Int) → true = bo (spansOk size l)))) :
 Con Try.prog f_spans_May spans_May_ct := ⟨spans_May_ok.able rfl, fun x hx =>
 con_eq hC (L := []) (trivial) spans_May_ok (ct := spans_May_ct) (depth := 0) rfl (by kernel_rfl) x (H (@id (Int × (List (Int × Int))) x).1 (@id (Int × (List (Int × Int))) x).2 (mpr' hx (by kernel_rfl))) (by kernel_rfl)⟩

theorem edit_Check_vc (hC : Cons Try.prog [])
 (H : ∀ (size : Int) (e : Int × Int × List UInt8), (inI64 size ∧ editFits e) →
 (¬((((size < 0 ∨ 600 < size) ∨ e.fst < 0) ∨ size < e.fst) ∨ e.snd.fst < 0) → inI64 (size - e.fst)) ∧
 (((((size < 0 ∨ 600 < size) ∨ e.fst < 0) ∨ size < e.fst) ∨ e.snd.fst < 0) ∨ size - e.fst < e.snd.fst →
 2 = editFault size e) ∧
 (¬(((((size < 0 ∨ 600 < size) ∨ e.fst < 0) ∨ size < e.fst) ∨ e.snd.fst < 0) ∨ size - e.fst < e.snd.fst) →
 inI64 (size - e.snd.fst) ∧
 inI64 (size - e.snd.fst + (↑e.snd.snd.length : Int)) ∧
 (600 < size - e.snd.fst + (↑e.snd.snd.length : Int) → 1 = editFault size e) ∧
 (¬600 < size - e.snd.fst + (↑e.snd.snd.length : Int) → 0 = editFault size e))) :
 Con Try.prog f_edit_Check edit_Check_ct := ⟨edit_Check_ok.able rfl, fun x hx =>
 con_eq hC (L := []) (trivial) edit_Check_ok (ct := edit_Check_ct) (depth := 0) rfl (by kernel_rfl) x (H (@id (Int × (Int × Int × List UInt8)) x).1 (@id (Int × (Int × Int × List UInt8)) x).2 (mpr' hx (by kernel_rfl))) (by kernel_rfl)⟩

theorem slices_Clone___api_Span_api_Span__vc (hC : Cons Try.prog [])
 (H : ∀ (s : List (Int × Int)), (fitM s) →
 ∀ (isnil : Prop),
 (isnil → (↑s.length : Int) = 0) → (isnil → [] = s) ∧ (¬isnil → (0 + s.length) * 16 ≤ 140737488355328 ∧ [] ++ s = s)) :
 Con Try.prog f_slices_Clone___api_Span_api_Span_ slices_Clone___api_Span_api_Span__ct := ⟨slices_Clone___api_Span_api_Span__ok.able rfl, fun x hx =>
 con_eq hC (L := []) (trivial) slices_Clone___api_Span_api_Span__ok (ct := slices_Clone___api_Span_api_Span__ct) (depth := 0) rfl (by kernel_rfl) x (H (@id ((List (Int × Int))) x) (mpr' hx (by kernel_rfl))) (by kernel_rfl)⟩

theorem spans_Without_vc (hC : Cons Try.prog [(f_slices_Clone___api_Span_api_Span_, slices_Clone___api_Span_api_Span__ct)])
 (H : ∀ (l : List (Int × Int)) (s : Int × Int), (spansPre l ∧ spanPre s) →
 ∃ (I : Int → List (Int × Int) → Prop),
 ∃ (m : Int → List (Int × Int) → Nat),
 (s.fst = s.fst ∧ s.snd = s.snd ∧ I (0 : Int) []) ∧
 ∀ (x : Int) (out : List (Int × Int)),
 I x out →
 (x < (↑l.length : Int) →
 (0 : Int) ≤ x ∧
 x < (↑l.length : Int) ∧
 (out.length + (2 : Nat)) * (16 : Nat) ≤ (140737488355328 : Nat) ∧
 inI64 (x + (1 : Int)) ∧
 s.fst = s.fst ∧
 s.snd = s.snd ∧
 I (x + (1 : Int))
 (out ++
 [((gt l x).fst, min (gt l x).snd (max (gt l x).fst s.fst)),
 (max (gt l x).fst (min (gt l x).snd s.snd), (gt l x).snd)]) ∧
 m (x + (1 : Int))
 (out ++
 [((gt l x).fst, min (gt l x).snd (max (gt l x).fst s.fst)),
 (max (gt l x).fst (min (gt l x).snd s.snd), (gt l x).snd)]) <
 m x out) ∧
 (¬x < (↑l.length : Int) →
 (s.fst = s.snd → fitM l ∧ l = without l s) ∧
 (¬s.fst = s.snd →
 ∃ (I : Int → Prop),
 ∃ (m : Int → Nat),
 (s.fst = s.fst ∧ s.snd = s.snd ∧ out = out ∧ I (0 : Int)) ∧
 ∀ (x : Int),
 I x →
 (x < (↑out.length : Int) →
 (0 : Int) ≤ x ∧
 x < (↑out.length : Int) ∧
 ((gt out x).snd ≤ (gt out x).fst →
 (x = (-1 : Int) → out = without l s) ∧
 (¬x = (-1 : Int) →
 inI64 (x + (1 : Int)) ∧
 ∃ (I : Int → Int → List (Int × Int) → Prop),
 ∃ (m : Int → Int → List (Int × Int) → Nat),
 (s.fst = s.fst ∧
 s.snd = s.snd ∧
 (gt out x).fst = (gt out x).fst ∧
 (gt out x).snd = (gt out x).snd ∧ I x (x + (1 : Int)) out) ∧
 ∀ (i j : Int) (s_1 : List (Int × Int)),
 I i j s_1 →
 (j < (↑s_1.length : Int) →
 (0 : Int) ≤ j ∧
 j < (↑s_1.length : Int) ∧
 (¬(gt s_1 j).snd ≤ (gt s_1 j).fst →
 (0 : Int) ≤ i ∧
 i < (↑s_1.length : Int) ∧
 inI64 (i + (1 : Int)) ∧
 inI64 (j + (1 : Int)) ∧
 s.fst = s.fst ∧
 s.snd = s.snd ∧
 (gt out x).fst = (gt out x).fst ∧
 (gt out x).snd = (gt out x).snd ∧
 I (i + (1 : Int)) (j + (1 : Int))
 (s_1.set i.toNat
 ((gt s_1 j).fst,
 (gt s_1 j).snd)) ∧
 m (i + (1 : Int)) (j + (1 : Int))
 (s_1.set i.toNat
 ((gt s_1 j).fst,
 (gt s_1 j).snd)) <
 m i j s_1) ∧
 (¬¬(gt s_1 j).snd ≤ (gt s_1 j).fst →
 inI64 (j + (1 : Int)) ∧
 s.fst = s.fst ∧
 s.snd = s.snd ∧
 (gt out x).fst = (gt out x).fst ∧
 (gt out x).snd = (gt out x).snd ∧
 I i (j + (1 : Int)) s_1 ∧
 m i (j + (1 : Int)) s_1 < m i j s_1)) ∧
 (¬j < (↑s_1.length : Int) →
 (0 : Int) ≤ i ∧
 i ≤ (↑s_1.length : Int) ∧
 (↑s_1.length : Int) ≤ (↑s_1.length : Int) ∧
 (0 : Int) ≤ (0 : Int) ∧
 (0 : Int) ≤ i ∧
 i ≤
 (↑(List.take i.toNat s_1 ++
 List.replicate
 ((↑s_1.length : Int) - i).toNat
 ((0 : Int), (0 : Int)) ++
 List.drop
 (i.toNat +
 ((↑s_1.length : Int) - i).toNat)
 s_1).length :
 Int) ∧
 (0 : Int) = (0 : Int) ∧
 List.take (i - (0 : Int)).toNat
 (List.take i.toNat s_1 ++
 List.replicate
 ((↑s_1.length : Int) - i).toNat
 ((0 : Int), (0 : Int)) ++
 List.drop
 (i.toNat +
 ((↑s_1.length : Int) - i).toNat)
 s_1) =
 without l s))) ∧
 (¬(gt out x).snd ≤ (gt out x).fst →
 inI64 (x + (1 : Int)) ∧
 s.fst = s.fst ∧
 s.snd = s.snd ∧ out = out ∧ I (x + (1 : Int)) ∧ m (x + (1 : Int)) < m x)) ∧
 (¬x < (↑out.length : Int) →
 ((-1 : Int) = (-1 : Int) → out = without l s) ∧
 (¬(-1 : Int) = (-1 : Int) →
 inI64 ((-1 : Int) + (1 : Int)) ∧
 ∃ (I : Int → Int → List (Int × Int) → Prop),
 ∃ (m : Int → Int → List (Int × Int) → Nat),
 (s.fst = s.fst ∧ s.snd = s.snd ∧ I (-1 : Int) ((-1 : Int) + (1 : Int)) out) ∧
 ∀ (i j : Int) (s_1 : List (Int × Int)),
 I i j s_1 →
 (j < (↑s_1.length : Int) →
 (0 : Int) ≤ j ∧
 j < (↑s_1.length : Int) ∧
 (¬(gt s_1 j).snd ≤ (gt s_1 j).fst →
 (0 : Int) ≤ i ∧
 i < (↑s_1.length : Int) ∧
 inI64 (i + (1 : Int)) ∧
 inI64 (j + (1 : Int)) ∧
 s.fst = s.fst ∧
 s.snd = s.snd ∧
 I (i + (1 : Int)) (j + (1 : Int))
 (s_1.set i.toNat
 ((gt s_1 j).fst, (gt s_1 j).snd)) ∧
 m (i + (1 : Int)) (j + (1 : Int))
 (s_1.set i.toNat
 ((gt s_1 j).fst, (gt s_1 j).snd)) <
 m i j s_1) ∧
 (¬¬(gt s_1 j).snd ≤ (gt s_1 j).fst →
 inI64 (j + (1 : Int)) ∧
 s.fst = s.fst ∧
 s.snd = s.snd ∧
 I i (j + (1 : Int)) s_1 ∧
 m i (j + (1 : Int)) s_1 < m i j s_1)) ∧
 (¬j < (↑s_1.length : Int) →
 (0 : Int) ≤ i ∧
 i ≤ (↑s_1.length : Int) ∧
 (↑s_1.length : Int) ≤ (↑s_1.length : Int) ∧
 (0 : Int) ≤ (0 : Int) ∧
 (0 : Int) ≤ i ∧
 i ≤
 (↑(List.take i.toNat s_1 ++
 List.replicate
 ((↑s_1.length : Int) - i).toNat
 ((0 : Int), (0 : Int)) ++
 List.drop
 (i.toNat + ((↑s_1.length : Int) - i).toNat)
 s_1).length :
 Int) ∧
 (0 : Int) = (0 : Int) ∧
 List.take (i - (0 : Int)).toNat
 (List.take i.toNat s_1 ++
 List.replicate ((↑s_1.length : Int) - i).toNat
 ((0 : Int), (0 : Int)) ++
 List.drop
 (i.toNat + ((↑s_1.length : Int) - i).toNat)
 s_1) =
 without l s)))))) :
 Con Try.prog f_spans_Without spans_Without_ct := ⟨spans_Without_ok.able rfl, fun x hx =>
 con_eq hC (L := [(f_slices_DeleteFunc___api_Span_api_Span_, slices_DeleteFunc___api_Span_api_Span__fi), (f_slices_IndexFunc___api_Span_api_Span_, slices_IndexFunc___api_Span_api_Span__fi), (f_spans_Without_1, spans_Without_1_fi)]) (⟨slices_DeleteFunc___api_Span_api_Span__ok, slices_IndexFunc___api_Span_api_Span__ok, spans_Without_1_ok, trivial⟩) spans_Without_ok (ct := spans_Without_ct) (depth := 4) rfl (by kernel_rfl) x (H (@id ((List (Int × Int)) × (Int × Int)) x).1 (@id ((List (Int × Int)) × (Int × Int)) x).2 (mpr' hx (by kernel_rfl))) (by kernel_rfl)⟩

theorem spans_Joined_vc (hC : Cons Try.prog [])
 (H : ∀ (l : List (Int × Int)), (ascOk l) →
 ∃ (I : Int → List (Int × Int) → Prop),
 ∃ (m : Int → List (Int × Int) → Nat),
 I 0 [] ∧
 ∀ (x : Int) (out : List (Int × Int)),
 I x out →
 (x < (↑l.length : Int) →
 0 ≤ x ∧
 x < (↑l.length : Int) ∧
 ((gt l x).fst = (gt l x).snd → inI64 (x + 1) ∧ I (x + 1) out ∧ m (x + 1) out < m x out) ∧
 (¬(gt l x).fst = (gt l x).snd →
 (0 < (↑out.length : Int) → inI64 ((↑out.length : Int) - 1)) ∧
 (0 < (↑out.length : Int) → 0 ≤ (↑out.length : Int) - 1) ∧
 (0 < (↑out.length : Int) → (↑out.length : Int) - 1 < (↑out.length : Int)) ∧
 (0 < (↑out.length : Int) ∧ (gt l x).fst ≤ (gt out ((↑out.length : Int) - 1)).snd →
 inI64 ((↑out.length : Int) - 1) ∧
 inI64 ((↑out.length : Int) - 1) ∧
 0 ≤ (↑out.length : Int) - 1 ∧
 (↑out.length : Int) - 1 < (↑out.length : Int) ∧
 0 ≤ (↑out.length : Int) - 1 ∧
 (↑out.length : Int) - 1 < (↑out.length : Int) ∧
 inI64 (x + 1) ∧
 I (x + 1)
 (out.set ((↑out.length : Int) - 1).toNat
 ((gt out ((↑out.length : Int) - 1)).fst,
 max (gt out ((↑out.length : Int) - 1)).snd (gt l x).snd)) ∧
 m (x + 1)
 (out.set ((↑out.length : Int) - 1).toNat
 ((gt out ((↑out.length : Int) - 1)).fst,
 max (gt out ((↑out.length : Int) - 1)).snd (gt l x).snd)) <
 m x out) ∧
 (¬(0 < (↑out.length : Int) ∧ (gt l x).fst ≤ (gt out ((↑out.length : Int) - 1)).snd) →
 (out.length + 1) * 16 ≤ 140737488355328 ∧
 inI64 (x + 1) ∧
 I (x + 1) (out ++ [((gt l x).fst, (gt l x).snd)]) ∧
 m (x + 1) (out ++ [((gt l x).fst, (gt l x).snd)]) < m x out))) ∧
 (¬x < (↑l.length : Int) → out = joined l)) :
 Con Try.prog f_spans_Joined spans_Joined_ct := ⟨spans_Joined_ok.able rfl, fun x hx =>
 con_eq hC (L := []) (trivial) spans_Joined_ok (ct := spans_Joined_ct) (depth := 0) rfl (by kernel_rfl) x (H (@id ((List (Int × Int))) x) (mpr' hx (by kernel_rfl))) (by kernel_rfl)⟩

theorem spans_Shifted_vc (hC : Cons Try.prog [(f_spans_Without, spans_Without_ctv), (f_spans_Joined, spans_Joined_ct), (f_spans_With, spans_With_ct)])
 (H : ∀ (l : List (Int × Int)) (e : Int × Int × List UInt8), (shiftPre l e) →
 inI64 (e.fst + e.snd.fst) ∧
 (spansPre l ∧ spanPre (e.fst, e.fst + e.snd.fst)) ∧
 ∃ (I : Int → List (Int × Int) → Prop),
 ∃ (m : Int → List (Int × Int) → Nat),
 (e.fst = e.fst ∧ e.snd.fst = e.snd.fst ∧ e.snd.snd = e.snd.snd ∧ I 0 []) ∧
 ∀ (x : Int) (out : List (Int × Int)),
 I x out →
 (x < (↑(without l (e.fst, e.fst + e.snd.fst)).length : Int) →
 0 ≤ x ∧
 x < (↑(without l (e.fst, e.fst + e.snd.fst)).length : Int) ∧
 ((gt (without l (e.fst, e.fst + e.snd.fst)) x).fst < e.fst ∧
 e.fst < (gt (without l (e.fst, e.fst + e.snd.fst)) x).snd →
 (out.length + 1) * 16 ≤ 140737488355328 ∧
 (e.fst ≤ e.fst →
 inI64 ((↑e.snd.snd.length : Int) - e.snd.fst) ∧
 inI64 (e.fst + ((↑e.snd.snd.length : Int) - e.snd.fst)) ∧
 inI64
 ((gt (without l (e.fst, e.fst + e.snd.fst)) x).snd +
 ((↑e.snd.snd.length : Int) - e.snd.fst)) ∧
 ((out ++ [((gt (without l (e.fst, e.fst + e.snd.fst)) x).fst, e.fst)]).length +
 1) *
 16 ≤
 140737488355328 ∧
 inI64 (x + 1) ∧
 e.fst = e.fst ∧
 e.snd.fst = e.snd.fst ∧
 e.snd.snd = e.snd.snd ∧
 I (x + 1)
 (out ++
 [((gt (without l (e.fst, e.fst + e.snd.fst)) x).fst, e.fst)] ++
 [(e.fst + ((↑e.snd.snd.length : Int) - e.snd.fst),
 (gt (without l (e.fst, e.fst + e.snd.fst)) x).snd +
 ((↑e.snd.snd.length : Int) - e.snd.fst))]) ∧
 m (x + 1)
 (out ++
 [((gt (without l (e.fst, e.fst + e.snd.fst)) x).fst,
 e.fst)] ++
 [(e.fst + ((↑e.snd.snd.length : Int) - e.snd.fst),
 (gt (without l (e.fst, e.fst + e.snd.fst)) x).snd +
 ((↑e.snd.snd.length : Int) - e.snd.fst))]) <
 m x out) ∧
 (¬e.fst ≤ e.fst →
 ((out ++ [((gt (without l (e.fst, e.fst + e.snd.fst)) x).fst, e.fst)]).length + 1) *
 16 ≤
 140737488355328 ∧
 inI64 (x + 1) ∧
 e.fst = e.fst ∧
 e.snd.fst = e.snd.fst ∧
 e.snd.snd = e.snd.snd ∧
 I (x + 1)
 (out ++ [((gt (without l (e.fst, e.fst + e.snd.fst)) x).fst, e.fst)] ++
 [(e.fst, (gt (without l (e.fst, e.fst + e.snd.fst)) x).snd)]) ∧
 m (x + 1)
 (out ++ [((gt (without l (e.fst, e.fst + e.snd.fst)) x).fst, e.fst)] ++
 [(e.fst, (gt (without l (e.fst, e.fst + e.snd.fst)) x).snd)]) <
 m x out)) ∧
 (¬((gt (without l (e.fst, e.fst + e.snd.fst)) x).fst < e.fst ∧
 e.fst < (gt (without l (e.fst, e.fst + e.snd.fst)) x).snd) →
 (e.fst ≤ (gt (without l (e.fst, e.fst + e.snd.fst)) x).fst →
 inI64 ((↑e.snd.snd.length : Int) - e.snd.fst) ∧
 inI64
 ((gt (without l (e.fst, e.fst + e.snd.fst)) x).fst +
 ((↑e.snd.snd.length : Int) - e.snd.fst)) ∧
 inI64
 ((gt (without l (e.fst, e.fst + e.snd.fst)) x).snd +
 ((↑e.snd.snd.length : Int) - e.snd.fst)) ∧
 (out.length + 1) * 16 ≤ 140737488355328 ∧
 inI64 (x + 1) ∧
 e.fst = e.fst ∧
 e.snd.fst = e.snd.fst ∧
 e.snd.snd = e.snd.snd ∧
 I (x + 1)
 (out ++
 [((gt (without l (e.fst, e.fst + e.snd.fst)) x).fst +
 ((↑e.snd.snd.length : Int) - e.snd.fst),
 (gt (without l (e.fst, e.fst + e.snd.fst)) x).snd +
 ((↑e.snd.snd.length : Int) - e.snd.fst))]) ∧
 m (x + 1)
 (out ++
 [((gt (without l (e.fst, e.fst + e.snd.fst)) x).fst +
 ((↑e.snd.snd.length : Int) - e.snd.fst),
 (gt (without l (e.fst, e.fst + e.snd.fst)) x).snd +
 ((↑e.snd.snd.length : Int) - e.snd.fst))]) <
 m x out) ∧
 (¬e.fst ≤ (gt (without l (e.fst, e.fst + e.snd.fst)) x).fst →
 (out.length + 1) * 16 ≤ 140737488355328 ∧
 inI64 (x + 1) ∧
 e.fst = e.fst ∧
 e.snd.fst = e.snd.fst ∧
 e.snd.snd = e.snd.snd ∧
 I (x + 1)
 (out ++
 [((gt (without l (e.fst, e.fst + e.snd.fst)) x).fst,
 (gt (without l (e.fst, e.fst + e.snd.fst)) x).snd)]) ∧
 m (x + 1)
 (out ++
 [((gt (without l (e.fst, e.fst + e.snd.fst)) x).fst,
 (gt (without l (e.fst, e.fst + e.snd.fst)) x).snd)]) <
 m x out))) ∧
 (¬x < (↑(without l (e.fst, e.fst + e.snd.fst)).length : Int) →
 inI64 (e.fst + (↑e.snd.snd.length : Int)) ∧
 ascOk out ∧
 e.fst = e.fst ∧
 e.fst = e.fst ∧
 e.snd.snd = e.snd.snd ∧
 (spansPre (joined out) ∧ spanPre (e.fst, e.fst + (↑e.snd.snd.length : Int))) ∧
 withSp (joined out) (e.fst, e.fst + (↑e.snd.snd.length : Int)) = shifted l e)) :
 Con Try.prog f_spans_Shifted spans_Shifted_ct := ⟨spans_Shifted_ok.able rfl, fun x hx =>
 con_eq hC (L := []) (trivial) spans_Shifted_ok (ct := spans_Shifted_ct) (depth := 0) rfl (by kernel_rfl) x (H (@id ((List (Int × Int)) × (Int × Int × List UInt8)) x).1 (@id ((List (Int × Int)) × (Int × Int × List UInt8)) x).2 (mpr' hx (by kernel_rfl))) (by kernel_rfl)⟩

theorem spans_Shift_vc (hC : Cons Try.prog [(f_spans_May, spans_May_ct), (f_edit_Check, edit_Check_ct), (f_spans_Shifted, spans_Shifted_ct)])
 (H : ∀ (size : Int) (l : List (Int × Int)) (e : Int × Int × List UInt8), (shFits size l e) →
 fitL l ∧
 (¬bo (spansOk size l) = true → [] = (spansShift size l e).fst ∧ 4 = (spansShift size l e).snd) ∧
 (¬¬bo (spansOk size l) = true →
 (inI64 size ∧ editFits (e.fst, e.snd.fst, e.snd.snd)) ∧
 (editFault size (e.fst, e.snd.fst, e.snd.snd) ≠ 0 →
 [] = (spansShift size l e).fst ∧ editFault size (e.fst, e.snd.fst, e.snd.snd) = (spansShift size l e).snd) ∧
 (¬editFault size (e.fst, e.snd.fst, e.snd.snd) ≠ 0 →
 shiftPre l (e.fst, e.snd.fst, e.snd.snd) ∧
 (40 < (↑(shifted l (e.fst, e.snd.fst, e.snd.snd)).length : Int) →
 [] = (spansShift size l e).fst ∧ 8 = (spansShift size l e).snd) ∧
 (¬40 < (↑(shifted l (e.fst, e.snd.fst, e.snd.snd)).length : Int) →
 shifted l (e.fst, e.snd.fst, e.snd.snd) = (spansShift size l e).fst ∧ 0 = (spansShift size l e).snd)))) :
 Con Try.prog f_spans_Shift spans_Shift_ct := ⟨spans_Shift_ok.able rfl, fun x hx =>
 con_eq hC (L := [(f_spans_full, spans_full_fi)]) (⟨spans_full_ok, trivial⟩) spans_Shift_ok (ct := spans_Shift_ct) (depth := 3) rfl (by kernel_rfl) x (H (@id (Int × (List (Int × Int)) × (Int × Int × List UInt8)) x).1 (@id (Int × (List (Int × Int)) × (Int × Int × List UInt8)) x).2.1 (@id (Int × (List (Int × Int)) × (Int × Int × List UInt8)) x).2.2 (mpr' hx (by kernel_rfl))) (by kernel_rfl)⟩

theorem ref_SpansMay_vc (hC : Cons Try.prog [])
 (H : ∀ (size : Int) (l : List (Int × Int)), (fitL l) →
 ((size < 0 ∨ 600 < size) ∨ 40 < (↑l.length : Int) → false = bo (spansOk size l)) ∧
 (¬((size < 0 ∨ 600 < size) ∨ 40 < (↑l.length : Int)) →
 ∃ (I : Int → Prop),
 ∃ (m : Int → Nat),
 I 0 ∧
 ∀ (x : Int),
 I x →
 (x < (↑l.length : Int) →
 0 ≤ x ∧
 x < (↑l.length : Int) ∧
 (¬(((gt l x).fst < 0 ∨ (gt l x).snd ≤ (gt l x).fst) ∨ size < (gt l x).snd) ∧ 0 < x →
 inI64 (x - 1)) ∧
 (¬(((gt l x).fst < 0 ∨ (gt l x).snd ≤ (gt l x).fst) ∨ size < (gt l x).snd) ∧ 0 < x →
 0 ≤ x - 1) ∧
 (¬(((gt l x).fst < 0 ∨ (gt l x).snd ≤ (gt l x).fst) ∨ size < (gt l x).snd) ∧ 0 < x →
 x - 1 < (↑l.length : Int)) ∧
 ((((gt l x).fst < 0 ∨ (gt l x).snd ≤ (gt l x).fst) ∨ size < (gt l x).snd) ∨
 0 < x ∧ (gt l x).fst ≤ (gt l (x - 1)).snd →
 false = bo (spansOk size l)) ∧
 (¬((((gt l x).fst < 0 ∨ (gt l x).snd ≤ (gt l x).fst) ∨ size < (gt l x).snd) ∨
 0 < x ∧ (gt l x).fst ≤ (gt l (x - 1)).snd) →
 inI64 (x + 1) ∧ I (x + 1) ∧ m (x + 1) < m x)) ∧
 (¬x < (↑l.length : Int) → true = bo (spansOk size l)))) :
 Con Try.prog f_ref_SpansMay ref_SpansMay_ct := ⟨ref_SpansMay_ok.able rfl, fun x hx =>
 con_eq hC (L := []) (trivial) ref_SpansMay_ok (ct := ref_SpansMay_ct) (depth := 0) rfl (by kernel_rfl) x (H (@id (Int × (List (Int × Int))) x).1 (@id (Int × (List (Int × Int))) x).2 (mpr' hx (by kernel_rfl))) (by kernel_rfl)⟩

theorem ref_EditFault_vc (hC : Cons Try.prog [])
 (H : ∀ (size : Int) (e : Int × Int × List UInt8), (inI64 size ∧ editFits e) →
 (¬(((((size < 0 ∨ 600 < size) ∨ e.fst < 0) ∨ e.snd.fst < 0) ∨ size < e.fst) ∨ size < e.snd.fst) →
 inI64 (e.fst + e.snd.fst)) ∧
 ((((((size < 0 ∨ 600 < size) ∨ e.fst < 0) ∨ e.snd.fst < 0) ∨ size < e.fst) ∨ size < e.snd.fst) ∨
 size < e.fst + e.snd.fst →
 2 = editFault size e) ∧
 (¬((((((size < 0 ∨ 600 < size) ∨ e.fst < 0) ∨ e.snd.fst < 0) ∨ size < e.fst) ∨ size < e.snd.fst) ∨
 size < e.fst + e.snd.fst) →
 inI64 (size + (↑e.snd.snd.length : Int)) ∧
 inI64 (size + (↑e.snd.snd.length : Int) - e.snd.fst) ∧
 (600 < size + (↑e.snd.snd.length : Int) - e.snd.fst → 1 = editFault size e) ∧
 (¬600 < size + (↑e.snd.snd.length : Int) - e.snd.fst → 0 = editFault size e))) :
 Con Try.prog f_ref_EditFault ref_EditFault_ct := ⟨ref_EditFault_ok.able rfl, fun x hx =>
 con_eq hC (L := []) (trivial) ref_EditFault_ok (ct := ref_EditFault_ct) (depth := 0) rfl (by kernel_rfl) x (H (@id (Int × (Int × Int × List UInt8)) x).1 (@id (Int × (Int × Int × List UInt8)) x).2 (mpr' hx (by kernel_rfl))) (by kernel_rfl)⟩

theorem ref_inSet_vc (hC : Cons Try.prog [])
 (H : ∀ (size : Int) (l : List (Int × Int)), (spansOk size l) →
 size = size ∧
 0 ≤ size ∧
 1 * size.toNat ≤ 140737488355328 ∧
 ∃ (I : Int → List Bool → Prop),
 ∃ (m : Int → List Bool → Nat),
 I 0 (List.replicate size.toNat false) ∧
 ∀ (x : Int) (out : List Bool),
 I x out →
 (x < (↑l.length : Int) →
 0 ≤ x ∧
 x < (↑l.length : Int) ∧
 ∃ (I_1 : Int → List Bool → Prop),
 ∃ (m_1 : Int → List Bool → Nat),
 ((gt l x).fst = (gt l x).fst ∧ (gt l x).snd = (gt l x).snd ∧ I_1 (gt l x).fst out) ∧
 ∀ (i : Int) (out_1 : List Bool),
 I_1 i out_1 →
 (i < (gt l x).snd →
 0 ≤ i ∧
 i < (↑out_1.length : Int) ∧
 inI64 (i + 1) ∧
 (gt l x).fst = (gt l x).fst ∧
 (gt l x).snd = (gt l x).snd ∧
 I_1 (i + 1) (out_1.set i.toNat true) ∧
 m_1 (i + 1) (out_1.set i.toNat true) < m_1 i out_1) ∧
 (¬i < (gt l x).snd → inI64 (x + 1) ∧ I (x + 1) out_1 ∧ m (x + 1) out_1 < m x out)) ∧
 (¬x < (↑l.length : Int) → out = maskOf size l)) :
 Con Try.prog f_ref_inSet ref_inSet_ct := ⟨ref_inSet_ok.able rfl, fun x hx =>
 con_eq hC (L := []) (trivial) ref_inSet_ok (ct := ref_inSet_ct) (depth := 0) rfl (by kernel_rfl) x (H (@id (Int × (List (Int × Int))) x).1 (@id (Int × (List (Int × Int))) x).2 (mpr' hx (by kernel_rfl))) (by kernel_rfl)⟩

theorem ref_editPlace_vc (hC : Cons Try.prog [])
 (H : ∀ (e : Int × Int × List UInt8) (at_ : Int) (right : Bool), (movedPre e at_) →
 (at_ < e.fst → at_ = moved e at_ right) ∧
 (¬at_ < e.fst →
 inI64 (e.fst + e.snd.fst) ∧
 (e.fst + e.snd.fst ≤ at_ ∧ ¬(e.snd.fst = 0 ∧ at_ = e.fst) →
 inI64 (at_ - e.snd.fst) ∧
 inI64 (at_ - e.snd.fst + (↑e.snd.snd.length : Int)) ∧
 at_ - e.snd.fst + (↑e.snd.snd.length : Int) = moved e at_ right) ∧
 (¬(e.fst + e.snd.fst ≤ at_ ∧ ¬(e.snd.fst = 0 ∧ at_ = e.fst)) →
 (right = true →
 inI64 (e.fst + (↑e.snd.snd.length : Int)) ∧ e.fst + (↑e.snd.snd.length : Int) = moved e at_ right) ∧
 (¬right = true → e.fst = moved e at_ right)))) :
 Con Try.prog f_ref_editPlace ref_editPlace_ct := ⟨ref_editPlace_ok.able rfl, fun x hx =>
 con_eq hC (L := []) (trivial) ref_editPlace_ok (ct := ref_editPlace_ct) (depth := 0) rfl (by kernel_rfl) x (H (@id ((Int × Int × List UInt8) × Int × Bool) x).1 (@id ((Int × Int × List UInt8) × Int × Bool) x).2.1 (@id ((Int × Int × List UInt8) × Int × Bool) x).2.2 (mpr' hx (by kernel_rfl))) (by kernel_rfl)⟩

theorem ref_setOf_vc (hC : Cons Try.prog [])
 (H : ∀ (in_ : List Bool), (maskPre in_) →
 ∃ (I : Int → List (Int × Int) → Prop),
 ∃ (m : Int → List (Int × Int) → Nat),
 I 0 [] ∧
 ∀ (x : Int) (out : List (Int × Int)),
 I x out →
 (x < (↑in_.length : Int) →
 0 ≤ x ∧
 x < (↑in_.length : Int) ∧
 (¬gt in_ x = true → inI64 (x + 1) ∧ I (x + 1) out ∧ m (x + 1) out < m x out) ∧
 (¬¬gt in_ x = true →
 (0 < x → inI64 (x - 1)) ∧
 (0 < x → 0 ≤ x - 1) ∧
 (0 < x → x - 1 < (↑in_.length : Int)) ∧
 (0 < x ∧ gt in_ (x - 1) = true →
 inI64 ((↑out.length : Int) - 1) ∧
 inI64 (x + 1) ∧
 0 ≤ (↑out.length : Int) - 1 ∧
 (↑out.length : Int) - 1 < (↑out.length : Int) ∧
 inI64 (x + 1) ∧
 I (x + 1)
 (out.set ((↑out.length : Int) - 1).toNat
 ((gt out ((↑out.length : Int) - 1)).fst, x + 1)) ∧
 m (x + 1)
 (out.set ((↑out.length : Int) - 1).toNat
 ((gt out ((↑out.length : Int) - 1)).fst, x + 1)) <
 m x out) ∧
 (¬(0 < x ∧ gt in_ (x - 1) = true) →
 inI64 (x + 1) ∧
 (out.length + 1) * 16 ≤ 140737488355328 ∧
 inI64 (x + 1) ∧
 I (x + 1) (out ++ [(x, x + 1)]) ∧ m (x + 1) (out ++ [(x, x + 1)]) < m x out))) ∧
 (¬x < (↑in_.length : Int) →
 (40 < (↑out.length : Int) → [] = (setOf in_).fst ∧ 8 = (setOf in_).snd) ∧
 (¬40 < (↑out.length : Int) → out = (setOf in_).fst ∧ 0 = (setOf in_).snd))) :
 Con Try.prog f_ref_setOf ref_setOf_ct := ⟨ref_setOf_ok.able rfl, fun x hx =>
 con_eq hC (L := []) (trivial) ref_setOf_ok (ct := ref_setOf_ct) (depth := 0) rfl (by kernel_rfl) x (H (@id (List Bool) x) (mpr' hx (by kernel_rfl))) (by kernel_rfl)⟩

theorem ref_SpansShift_vc (hC : Cons Try.prog [(f_ref_SpansMay, ref_SpansMay_ct), (f_ref_EditFault, ref_EditFault_ct), (f_ref_inSet, ref_inSet_ct), (f_ref_editPlace, ref_editPlace_ct), (f_ref_setOf, ref_setOf_ct)])
 (H : ∀ (size : Int) (l : List (Int × Int)) (e : Int × Int × List UInt8), (shFits size l e) →
 fitL l ∧
 (¬bo (spansOk size l) = true → [] = (spansShift size l e).fst ∧ 4 = (spansShift size l e).snd) ∧
 (¬¬bo (spansOk size l) = true →
 (inI64 size ∧ editFits (e.fst, e.snd.fst, e.snd.snd)) ∧
 (editFault size (e.fst, e.snd.fst, e.snd.snd) ≠ 0 →
 [] = (spansShift size l e).fst ∧ editFault size (e.fst, e.snd.fst, e.snd.snd) = (spansShift size l e).snd) ∧
 (¬editFault size (e.fst, e.snd.fst, e.snd.snd) ≠ 0 →
 inI64 (size + (↑e.snd.snd.length : Int)) ∧
 inI64 (size + (↑e.snd.snd.length : Int) - e.snd.fst) ∧
 size + (↑e.snd.snd.length : Int) - e.snd.fst = size + (↑e.snd.snd.length : Int) - e.snd.fst ∧
 0 ≤ size + (↑e.snd.snd.length : Int) - e.snd.fst ∧
 1 * (size + (↑e.snd.snd.length : Int) - e.snd.fst).toNat ≤ 140737488355328 ∧
 spansOk size l ∧
 ∃ (I : Int → List Bool → Prop),
 ∃ (m : Int → List Bool → Nat),
 (e.fst = e.fst ∧
 e.snd.fst = e.snd.fst ∧
 e.snd.snd = e.snd.snd ∧
 maskOf size l = maskOf size l ∧
 I 0 (List.replicate (size + (↑e.snd.snd.length : Int) - e.snd.fst).toNat false)) ∧
 ∀ (x : Int) (out : List Bool),
 I x out →
 (x < (↑(maskOf size l).length : Int) →
 0 ≤ x ∧
 x < (↑(maskOf size l).length : Int) ∧
 (gt (maskOf size l) x = true ∧ ¬x < e.fst → inI64 (e.fst + e.snd.fst)) ∧
 (gt (maskOf size l) x = true ∧ (x < e.fst ∨ e.fst + e.snd.fst ≤ x) →
 movedPre (e.fst, e.snd.fst, e.snd.snd) x ∧
 0 ≤ moved (e.fst, e.snd.fst, e.snd.snd) x true ∧
 moved (e.fst, e.snd.fst, e.snd.snd) x true < (↑out.length : Int) ∧
 inI64 (x + 1) ∧
 e.fst = e.fst ∧
 e.snd.fst = e.snd.fst ∧
 e.snd.snd = e.snd.snd ∧
 maskOf size l = maskOf size l ∧
 I (x + 1)
 (out.set
 (moved (e.fst, e.snd.fst, e.snd.snd) x true).toNat
 true) ∧
 m (x + 1)
 (out.set
 (moved (e.fst, e.snd.fst, e.snd.snd) x
 true).toNat
 true) <
 m x out) ∧
 (¬(gt (maskOf size l) x = true ∧ (x < e.fst ∨ e.fst + e.snd.fst ≤ x)) →
 inI64 (x + 1) ∧
 e.fst = e.fst ∧
 e.snd.fst = e.snd.fst ∧
 e.snd.snd = e.snd.snd ∧
 maskOf size l = maskOf size l ∧
 I (x + 1) out ∧ m (x + 1) out < m x out)) ∧
 (¬x < (↑(maskOf size l).length : Int) →
 ∃ (I : Int → List Bool → Prop),
 ∃ (m : Int → List Bool → Nat),
 (e.fst = e.fst ∧
 e.snd.fst = e.snd.fst ∧
 e.snd.snd = e.snd.snd ∧ maskOf size l = maskOf size l ∧ I 0 out) ∧
 ∀ (x : Int) (out : List Bool),
 I x out →
 (x < (↑e.snd.snd.length : Int) →
 inI64 (e.fst + x) ∧
 0 ≤ e.fst + x ∧
 e.fst + x < (↑out.length : Int) ∧
 inI64 (x + 1) ∧
 e.fst = e.fst ∧
 e.snd.fst = e.snd.fst ∧
 e.snd.snd = e.snd.snd ∧
 maskOf size l = maskOf size l ∧
 I (x + 1) (out.set (e.fst + x).toNat true) ∧
 m (x + 1) (out.set (e.fst + x).toNat true) <
 m x out) ∧
 (¬x < (↑e.snd.snd.length : Int) →
 maskPre out ∧
 (setOf out).fst = (spansShift size l e).fst ∧
 (setOf out).snd = (spansShift size l e).snd))))) :
 Con Try.prog f_ref_SpansShift ref_SpansShift_ct := ⟨ref_SpansShift_ok.able rfl, fun x hx =>
 con_eq hC (L := []) (trivial) ref_SpansShift_ok (ct := ref_SpansShift_ct) (depth := 0) rfl (by kernel_rfl) x (H (@id (Int × (List (Int × Int)) × (Int × Int × List UInt8)) x).1 (@id (Int × (List (Int × Int)) × (Int × Int × List UInt8)) x).2.1 (@id (Int × (List (Int × Int)) × (Int × Int × List UInt8)) x).2.2 (mpr' hx (by kernel_rfl))) (by kernel_rfl)⟩

theorem law_sameSpans_vc (hC : Cons Try.prog [])
 (H : ∀ (a : List (Int × Int)) (b : List (Int × Int)), (fitL a ∧ fitL b) →
 ((↑a.length : Int) ≠ (↑b.length : Int) → false = bo (a = b)) ∧
 (¬(↑a.length : Int) ≠ (↑b.length : Int) →
 ∃ (I : Int → Prop),
 ∃ (m : Int → Nat),
 I 0 ∧
 ∀ (i : Int),
 I i →
 (i < (↑a.length : Int) →
 0 ≤ i ∧
 i < (↑a.length : Int) ∧
 0 ≤ i ∧
 i < (↑b.length : Int) ∧
 (¬((gt a i).fst = (gt b i).fst ∧ (gt a i).snd = (gt b i).snd) → false = bo (a = b)) ∧
 (¬¬((gt a i).fst = (gt b i).fst ∧ (gt a i).snd = (gt b i).snd) →
 inI64 (i + 1) ∧ I (i + 1) ∧ m (i + 1) < m i)) ∧
 (¬i < (↑a.length : Int) → true = bo (a = b)))) :
 Con Try.prog f_law_sameSpans law_sameSpans_ct := ⟨law_sameSpans_ok.able rfl, fun x hx =>
 con_eq hC (L := []) (trivial) law_sameSpans_ok (ct := law_sameSpans_ct) (depth := 0) rfl (by kernel_rfl) x (H (@id ((List (Int × Int)) × (List (Int × Int))) x).1 (@id ((List (Int × Int)) × (List (Int × Int))) x).2 (mpr' hx (by kernel_rfl))) (by kernel_rfl)⟩

theorem law_SpansShifts_vc (hC : Cons Try.prog [(f_spans_Shift, spans_Shift_ct), (f_ref_SpansShift, ref_SpansShift_ct), (f_law_sameSpans, law_sameSpans_ct)])
 (H : ∀ (size : Int) (l : List (Int × Int)) (e : Int × Int × List UInt8), ((IntKind.i64.min ≤ size ∧ size ≤ IntKind.i64.max) ∧
 (l.length ≤ 140737488351232 ∧
 ∀ (x : Int × Int),
 List.Mem x l →
 (IntKind.i64.min ≤ x.1 ∧ x.1 ≤ IntKind.i64.max) ∧ IntKind.i64.min ≤ x.2 ∧ x.2 ≤ IntKind.i64.max) ∧
 (IntKind.i64.min ≤ e.1 ∧ e.1 ≤ IntKind.i64.max) ∧
 (IntKind.i64.min ≤ e.2.1 ∧ e.2.1 ≤ IntKind.i64.max) ∧ e.2.2.length.le 140737488351232) →
 shFits size l (e.fst, e.snd.fst, e.snd.snd) ∧
 shFits size l (e.fst, e.snd.fst, e.snd.snd) ∧
 (fitL (spansShift size l (e.fst, e.snd.fst, e.snd.snd)).fst ∧
 fitL (spansShift size l (e.fst, e.snd.fst, e.snd.snd)).fst) ∧
 bo
 (bo
 ((spansShift size l (e.fst, e.snd.fst, e.snd.snd)).fst =
 (spansShift size l (e.fst, e.snd.fst, e.snd.snd)).fst) =
 true ∧
 (spansShift size l (e.fst, e.snd.fst, e.snd.snd)).snd =
 (spansShift size l (e.fst, e.snd.fst, e.snd.snd)).snd) =
 true) :
 Con Try.prog f_law_SpansShifts law_SpansShifts_ct := ⟨law_SpansShifts_ok.able rfl, fun x hx =>
 con_eq hC (L := []) (trivial) law_SpansShifts_ok (ct := law_SpansShifts_ct) (depth := 0) rfl (by kernel_rfl) x (H (@id (Int × (List (Int × Int)) × (Int × Int × List UInt8)) x).1 (@id (Int × (List (Int × Int)) × (Int × Int × List UInt8)) x).2.1 (@id (Int × (List (Int × Int)) × (Int × Int × List UInt8)) x).2.2 (mpr' hx (by kernel_rfl))) (by kernel_rfl)⟩

end Go.Proofs.Ytogjhebilbbdjaa
