/- The typed conditions of the functions, printed by a program of the claim's author; each gives the contract of its function. Conditions: none. -/
import Derived.Test.YtogjhebilbbdjaaGSpansAdds
import Derived.Test.YtogjhebilbbdjaaVpA
import Derived.Test.YtogjhebilbbdjaaVpB
import Derived.Test.YtogjhebilbbdjaaVpC
import Derived.Test.YtogjhebilbbdjaaVpE
import Derived.Test.YtogjhebilbbdjaaVpJ
import Derived.Test.YtogjhebilbbdjaaVpP
import Derived.Test.YtogjhebilbbdjaaVpR
import Derived.Test.YtogjhebilbbdjaaVpRJ
import Derived.Test.YtogjhebilbbdjaaInsG
import Derived.Test.YtogjhebilbbdjaaBase
set_option linter.unusedVariables false
set_option linter.unusedSimpArgs false
set_option maxRecDepth 100000
namespace Go.Proofs.Ytogjhebilbbdjaa
open Go.Vc Go.Fu

theorem spans_May_vc (hC : Cons Try.prog [])
 (H : ∀ (size : Int) (l : List (Int × Int)), (fitL l) →
 ((size < 0 ∨ 600 < size) ∨ 40 < (↑l.length : Int) → false = bo (spansOk size l)) ∧
 (¬((size < 0 ∨ 600 < size) ∨ 40 < (↑l.length : Int)) →
 ∃ (I : Int → Int → Prop),
 ∃ (m : Int → Int → Nat),
 I (-1) 0 ∧
 ∀ (last x : Int),
 I last x →
 (x < (↑l.length : Int) →
 0 ≤ x ∧
 x < (↑l.length : Int) ∧
 (((gt l x).fst ≤ last ∨ (gt l x).snd ≤ (gt l x).fst) ∨ size < (gt l x).snd →
 false = bo (spansOk size l)) ∧
 (¬(((gt l x).fst ≤ last ∨ (gt l x).snd ≤ (gt l x).fst) ∨ size < (gt l x).snd) →
 inI64 (x + 1) ∧ I (gt l x).snd (x + 1) ∧ m (gt l x).snd (x + 1) < m last x)) ∧
 (¬x < (↑l.length : Int) → true = bo (spansOk size l)))) :
 Con Try.prog f_spans_May spans_May_ct := ⟨spans_May_ok.able rfl, fun x hx =>
 con_eq hC (L := []) (trivial) spans_May_ok (ct := spans_May_ct) (depth := 0) rfl (by kernel_rfl) x (H (@id (Int × (List (Int × Int))) x).1 (@id (Int × (List (Int × Int))) x).2 (mpr' hx (by kernel_rfl))) (by kernel_rfl)⟩

theorem spans_fault_vc (hC : Cons Try.prog [(f_spans_May, spans_May_ct)])
 (H : ∀ (size : Int) (l : List (Int × Int)) (s : Int × Int), (fitL l) →
 fitL l ∧
 (¬bo (spansOk size l) = true → 4 = spansFault size l s) ∧
 (¬¬bo (spansOk size l) = true →
 ((s.fst < 0 ∨ s.snd < s.fst) ∨ size < s.snd → 2 = spansFault size l s) ∧
 (¬((s.fst < 0 ∨ s.snd < s.fst) ∨ size < s.snd) → 0 = spansFault size l s))) :
 Con Try.prog f_spans_fault spans_fault_ct := ⟨spans_fault_ok.able rfl, fun x hx =>
 con_eq hC (L := []) (trivial) spans_fault_ok (ct := spans_fault_ct) (depth := 0) rfl (by kernel_rfl) x (H (@id (Int × (List (Int × Int)) × (Int × Int)) x).1 (@id (Int × (List (Int × Int)) × (Int × Int)) x).2.1 (@id (Int × (List (Int × Int)) × (Int × Int)) x).2.2 (mpr' hx (by kernel_rfl))) (by kernel_rfl)⟩

theorem spans_Joined_vc (hC : Cons Try.prog [])
 (H : ∀ (l : List (Int × Int)), (ascOk l) →
 ∃ (I : Int → List (Int × Int) → Prop),
 ∃ (m : Int → List (Int × Int) → Nat),
 I 0 [] ∧
 ∀ (x : Int) (out : List (Int × Int)),
 I x out →
 (x < (↑l.length : Int) →
 0 ≤ x ∧
 x < (↑l.length : Int) ∧
 ((gt l x).fst = (gt l x).snd → inI64 (x + 1) ∧ I (x + 1) out ∧ m (x + 1) out < m x out) ∧
 (¬(gt l x).fst = (gt l x).snd →
 (0 < (↑out.length : Int) → inI64 ((↑out.length : Int) - 1)) ∧
 (0 < (↑out.length : Int) → 0 ≤ (↑out.length : Int) - 1) ∧
 (0 < (↑out.length : Int) → (↑out.length : Int) - 1 < (↑out.length : Int)) ∧
 (0 < (↑out.length : Int) ∧ (gt l x).fst ≤ (gt out ((↑out.length : Int) - 1)).snd →
 inI64 ((↑out.length : Int) - 1) ∧
 inI64 ((↑out.length : Int) - 1) ∧
 0 ≤ (↑out.length : Int) - 1 ∧
 (↑out.length : Int) - 1 < (↑out.length : Int) ∧
 0 ≤ (↑out.length : Int) - 1 ∧
 (↑out.length : Int) - 1 < (↑out.length : Int) ∧
 inI64 (x + 1) ∧
 I (x + 1)
 (out.set ((↑out.length : Int) - 1).toNat
 ((gt out ((↑out.length : Int) - 1)).fst,
 max (gt out ((↑out.length : Int) - 1)).snd (gt l x).snd)) ∧
 m (x + 1)
 (out.set ((↑out.length : Int) - 1).toNat
 ((gt out ((↑out.length : Int) - 1)).fst,
 max (gt out ((↑out.length : Int) - 1)).snd (gt l x).snd)) <
 m x out) ∧
 (¬(0 < (↑out.length : Int) ∧ (gt l x).fst ≤ (gt out ((↑out.length : Int) - 1)).snd) →
 (out.length + 1) * 16 ≤ 140737488355328 ∧
 inI64 (x + 1) ∧
 I (x + 1) (out ++ [((gt l x).fst, (gt l x).snd)]) ∧
 m (x + 1) (out ++ [((gt l x).fst, (gt l x).snd)]) < m x out))) ∧
 (¬x < (↑l.length : Int) → out = joined l)) :
 Con Try.prog f_spans_Joined spans_Joined_ct := ⟨spans_Joined_ok.able rfl, fun x hx =>
 con_eq hC (L := []) (trivial) spans_Joined_ok (ct := spans_Joined_ct) (depth := 0) rfl (by kernel_rfl) x (H (@id ((List (Int × Int))) x) (mpr' hx (by kernel_rfl))) (by kernel_rfl)⟩

theorem spans_Add_vc (hC : Cons Try.prog [(f_spans_fault, spans_fault_ct), (f_spans_With, spans_With_ct)])
 (H : ∀ (size : Int) (l : List (Int × Int)) (s : Int × Int), (fitL l) →
 fitL l ∧
 (spansFault size l (s.fst, s.snd) ≠ 0 →
 [] = (spansAdd size l s).fst ∧ spansFault size l (s.fst, s.snd) = (spansAdd size l s).snd) ∧
 (¬spansFault size l (s.fst, s.snd) ≠ 0 →
 (spansPre l ∧ spanPre (s.fst, s.snd)) ∧
 (40 < (↑(withSp l (s.fst, s.snd)).length : Int) → [] = (spansAdd size l s).fst ∧ 8 = (spansAdd size l s).snd) ∧
 (¬40 < (↑(withSp l (s.fst, s.snd)).length : Int) →
 withSp l (s.fst, s.snd) = (spansAdd size l s).fst ∧ 0 = (spansAdd size l s).snd))) :
 Con Try.prog f_spans_Add spans_Add_ct := ⟨spans_Add_ok.able rfl, fun x hx =>
 con_eq hC (L := [(f_spans_full, spans_full_fi)]) (⟨spans_full_ok, trivial⟩) spans_Add_ok (ct := spans_Add_ct) (depth := 3) rfl (by kernel_rfl) x (H (@id (Int × (List (Int × Int)) × (Int × Int)) x).1 (@id (Int × (List (Int × Int)) × (Int × Int)) x).2.1 (@id (Int × (List (Int × Int)) × (Int × Int)) x).2.2 (mpr' hx (by kernel_rfl))) (by kernel_rfl)⟩

theorem ref_SpansMay_vc (hC : Cons Try.prog [])
 (H : ∀ (size : Int) (l : List (Int × Int)), (fitL l) →
 ((size < 0 ∨ 600 < size) ∨ 40 < (↑l.length : Int) → false = bo (spansOk size l)) ∧
 (¬((size < 0 ∨ 600 < size) ∨ 40 < (↑l.length : Int)) →
 ∃ (I : Int → Prop),
 ∃ (m : Int → Nat),
 I 0 ∧
 ∀ (x : Int),
 I x →
 (x < (↑l.length : Int) →
 0 ≤ x ∧
 x < (↑l.length : Int) ∧
 (¬(((gt l x).fst < 0 ∨ (gt l x).snd ≤ (gt l x).fst) ∨ size < (gt l x).snd) ∧ 0 < x →
 inI64 (x - 1)) ∧
 (¬(((gt l x).fst < 0 ∨ (gt l x).snd ≤ (gt l x).fst) ∨ size < (gt l x).snd) ∧ 0 < x →
 0 ≤ x - 1) ∧
 (¬(((gt l x).fst < 0 ∨ (gt l x).snd ≤ (gt l x).fst) ∨ size < (gt l x).snd) ∧ 0 < x →
 x - 1 < (↑l.length : Int)) ∧
 ((((gt l x).fst < 0 ∨ (gt l x).snd ≤ (gt l x).fst) ∨ size < (gt l x).snd) ∨
 0 < x ∧ (gt l x).fst ≤ (gt l (x - 1)).snd →
 false = bo (spansOk size l)) ∧
 (¬((((gt l x).fst < 0 ∨ (gt l x).snd ≤ (gt l x).fst) ∨ size < (gt l x).snd) ∨
 0 < x ∧ (gt l x).fst ≤ (gt l (x - 1)).snd) →
 inI64 (x + 1) ∧ I (x + 1) ∧ m (x + 1) < m x)) ∧
 (¬x < (↑l.length : Int) → true = bo (spansOk size l)))) :
 Con Try.prog f_ref_SpansMay ref_SpansMay_ct := ⟨ref_SpansMay_ok.able rfl, fun x hx =>
 con_eq hC (L := []) (trivial) ref_SpansMay_ok (ct := ref_SpansMay_ct) (depth := 0) rfl (by kernel_rfl) x (H (@id (Int × (List (Int × Int))) x).1 (@id (Int × (List (Int × Int))) x).2 (mpr' hx (by kernel_rfl))) (by kernel_rfl)⟩

theorem ref_spansFault_vc (hC : Cons Try.prog [(f_ref_SpansMay, ref_SpansMay_ct)])
 (H : ∀ (size : Int) (l : List (Int × Int)) (s : Int × Int), (fitL l) →
 fitL l ∧
 (¬bo (spansOk size l) = true → 4 = spansFault size l s) ∧
 (¬¬bo (spansOk size l) = true →
 ((s.fst < 0 ∨ s.snd < s.fst) ∨ size < s.snd → 2 = spansFault size l s) ∧
 (¬((s.fst < 0 ∨ s.snd < s.fst) ∨ size < s.snd) → 0 = spansFault size l s))) :
 Con Try.prog f_ref_spansFault ref_spansFault_ct := ⟨ref_spansFault_ok.able rfl, fun x hx =>
 con_eq hC (L := []) (trivial) ref_spansFault_ok (ct := ref_spansFault_ct) (depth := 0) rfl (by kernel_rfl) x (H (@id (Int × (List (Int × Int)) × (Int × Int)) x).1 (@id (Int × (List (Int × Int)) × (Int × Int)) x).2.1 (@id (Int × (List (Int × Int)) × (Int × Int)) x).2.2 (mpr' hx (by kernel_rfl))) (by kernel_rfl)⟩

theorem ref_inSet_vc (hC : Cons Try.prog [])
 (H : ∀ (size : Int) (l : List (Int × Int)), (spansOk size l) →
 size = size ∧
 0 ≤ size ∧
 1 * size.toNat ≤ 140737488355328 ∧
 ∃ (I : Int → List Bool → Prop),
 ∃ (m : Int → List Bool → Nat),
 I 0 (List.replicate size.toNat false) ∧
 ∀ (x : Int) (out : List Bool),
 I x out →
 (x < (↑l.length : Int) →
 0 ≤ x ∧
 x < (↑l.length : Int) ∧
 ∃ (I_1 : Int → List Bool → Prop),
 ∃ (m_1 : Int → List Bool → Nat),
 ((gt l x).fst = (gt l x).fst ∧ (gt l x).snd = (gt l x).snd ∧ I_1 (gt l x).fst out) ∧
 ∀ (i : Int) (out_1 : List Bool),
 I_1 i out_1 →
 (i < (gt l x).snd →
 0 ≤ i ∧
 i < (↑out_1.length : Int) ∧
 inI64 (i + 1) ∧
 (gt l x).fst = (gt l x).fst ∧
 (gt l x).snd = (gt l x).snd ∧
 I_1 (i + 1) (out_1.set i.toNat true) ∧
 m_1 (i + 1) (out_1.set i.toNat true) < m_1 i out_1) ∧
 (¬i < (gt l x).snd → inI64 (x + 1) ∧ I (x + 1) out_1 ∧ m (x + 1) out_1 < m x out)) ∧
 (¬x < (↑l.length : Int) → out = maskOf size l)) :
 Con Try.prog f_ref_inSet ref_inSet_ct := ⟨ref_inSet_ok.able rfl, fun x hx =>
 con_eq hC (L := []) (trivial) ref_inSet_ok (ct := ref_inSet_ct) (depth := 0) rfl (by kernel_rfl) x (H (@id (Int × (List (Int × Int))) x).1 (@id (Int × (List (Int × Int))) x).2 (mpr' hx (by kernel_rfl))) (by kernel_rfl)⟩

theorem ref_setOf_vc (hC : Cons Try.prog [])
 (H : ∀ (in_ : List Bool), (maskPre in_) →
 ∃ (I : Int → List (Int × Int) → Prop),
 ∃ (m : Int → List (Int × Int) → Nat),
 I 0 [] ∧
 ∀ (x : Int) (out : List (Int × Int)),
 I x out →
 (x < (↑in_.length : Int) →
 0 ≤ x ∧
 x < (↑in_.length : Int) ∧
 (¬gt in_ x = true → inI64 (x + 1) ∧ I (x + 1) out ∧ m (x + 1) out < m x out) ∧
 (¬¬gt in_ x = true →
 (0 < x → inI64 (x - 1)) ∧
 (0 < x → 0 ≤ x - 1) ∧
 (0 < x → x - 1 < (↑in_.length : Int)) ∧
 (0 < x ∧ gt in_ (x - 1) = true →
 inI64 ((↑out.length : Int) - 1) ∧
 inI64 (x + 1) ∧
 0 ≤ (↑out.length : Int) - 1 ∧
 (↑out.length : Int) - 1 < (↑out.length : Int) ∧
 inI64 (x + 1) ∧
 I (x + 1)
 (out.set ((↑out.length : Int) - 1).toNat
 ((gt out ((↑out.length : Int) - 1)).fst, x + 1)) ∧
 m (x + 1)
 (out.set ((↑out.length : Int) - 1).toNat
 ((gt out ((↑out.length : Int) - 1)).fst, x + 1)) <
 m x out) ∧
 (¬(0 < x ∧ gt in_ (x - 1) = true) →
 inI64 (x + 1) ∧
 (out.length + 1) * 16 ≤ 140737488355328 ∧
 inI64 (x + 1) ∧
 I (x + 1) (out ++ [(x, x + 1)]) ∧ m (x + 1) (out ++ [(x, x + 1)]) < m x out))) ∧
 (¬x < (↑in_.length : Int) →
 (40 < (↑out.length : Int) → [] = (setOf in_).fst ∧ 8 = (setOf in_).snd) ∧
 (¬40 < (↑out.length : Int) → out = (setOf in_).fst ∧ 0 = (setOf in_).snd))) :
 Con Try.prog f_ref_setOf ref_setOf_ct := ⟨ref_setOf_ok.able rfl, fun x hx =>
 con_eq hC (L := []) (trivial) ref_setOf_ok (ct := ref_setOf_ct) (depth := 0) rfl (by kernel_rfl) x (H (@id (List Bool) x) (mpr' hx (by kernel_rfl))) (by kernel_rfl)⟩

theorem ref_SpansSet_vc (hC : Cons Try.prog [(f_ref_spansFault, ref_spansFault_ct), (f_ref_inSet, ref_inSet_ct), (f_ref_setOf, ref_setOf_ct)])
 (H : ∀ (size : Int) (l : List (Int × Int)) (s : Int × Int) (add : Bool), (fitL l) →
 fitL l ∧
 (spansFault size l (s.fst, s.snd) ≠ 0 →
 [] = (spansSet size l s add).fst ∧ spansFault size l (s.fst, s.snd) = (spansSet size l s add).snd) ∧
 (¬spansFault size l (s.fst, s.snd) ≠ 0 →
 spansOk size l ∧
 ∃ (I : Int → List Bool → Prop),
 ∃ (m : Int → List Bool → Nat),
 (s.fst = s.fst ∧ s.snd = s.snd ∧ I s.fst (maskOf size l)) ∧
 ∀ (i : Int) («in» : List Bool),
 I i «in» →
 (i < s.snd →
 0 ≤ i ∧
 i < (↑«in».length : Int) ∧
 inI64 (i + 1) ∧
 s.fst = s.fst ∧
 s.snd = s.snd ∧
 I (i + 1) («in».set i.toNat add) ∧ m (i + 1) («in».set i.toNat add) < m i «in») ∧
 (¬i < s.snd →
 maskPre «in» ∧
 (setOf «in»).fst = (spansSet size l s add).fst ∧
 (setOf «in»).snd = (spansSet size l s add).snd))) :
 Con Try.prog f_ref_SpansSet ref_SpansSet_ct := ⟨ref_SpansSet_ok.able rfl, fun x hx =>
 con_eq hC (L := []) (trivial) ref_SpansSet_ok (ct := ref_SpansSet_ct) (depth := 0) rfl (by kernel_rfl) x (H (@id (Int × (List (Int × Int)) × (Int × Int) × Bool) x).1 (@id (Int × (List (Int × Int)) × (Int × Int) × Bool) x).2.1 (@id (Int × (List (Int × Int)) × (Int × Int) × Bool) x).2.2.1 (@id (Int × (List (Int × Int)) × (Int × Int) × Bool) x).2.2.2 (mpr' hx (by kernel_rfl))) (by kernel_rfl)⟩

theorem law_sameSpans_vc (hC : Cons Try.prog [])
 (H : ∀ (a : List (Int × Int)) (b : List (Int × Int)), (fitL a ∧ fitL b) →
 ((↑a.length : Int) ≠ (↑b.length : Int) → false = bo (a = b)) ∧
 (¬(↑a.length : Int) ≠ (↑b.length : Int) →
 ∃ (I : Int → Prop),
 ∃ (m : Int → Nat),
 I 0 ∧
 ∀ (i : Int),
 I i →
 (i < (↑a.length : Int) →
 0 ≤ i ∧
 i < (↑a.length : Int) ∧
 0 ≤ i ∧
 i < (↑b.length : Int) ∧
 (¬((gt a i).fst = (gt b i).fst ∧ (gt a i).snd = (gt b i).snd) → false = bo (a = b)) ∧
 (¬¬((gt a i).fst = (gt b i).fst ∧ (gt a i).snd = (gt b i).snd) →
 inI64 (i + 1) ∧ I (i + 1) ∧ m (i + 1) < m i)) ∧
 (¬i < (↑a.length : Int) → true = bo (a = b)))) :
 Con Try.prog f_law_sameSpans law_sameSpans_ct := ⟨law_sameSpans_ok.able rfl, fun x hx =>
 con_eq hC (L := []) (trivial) law_sameSpans_ok (ct := law_sameSpans_ct) (depth := 0) rfl (by kernel_rfl) x (H (@id ((List (Int × Int)) × (List (Int × Int))) x).1 (@id ((List (Int × Int)) × (List (Int × Int))) x).2 (mpr' hx (by kernel_rfl))) (by kernel_rfl)⟩

theorem law_SpansAdds_vc (hC : Cons Try.prog [(f_spans_Add, spans_Add_ct), (f_ref_SpansSet, ref_SpansSet_ct), (f_law_sameSpans, law_sameSpans_ct)])
 (H : ∀ (size : Int) (l : List (Int × Int)) (s : Int × Int), ((IntKind.i64.min ≤ size ∧ size ≤ IntKind.i64.max) ∧
 (l.length ≤ 140737488351232 ∧
 ∀ (x : Int × Int),
 List.Mem x l →
 (IntKind.i64.min ≤ x.1 ∧ x.1 ≤ IntKind.i64.max) ∧ IntKind.i64.min ≤ x.2 ∧ x.2 ≤ IntKind.i64.max) ∧
 (IntKind.i64.min ≤ s.1 ∧ s.1 ≤ IntKind.i64.max) ∧ IntKind.i64.min ≤ s.2 ∧ s.2 ≤ IntKind.i64.max) →
 fitL l ∧
 fitL l ∧
 (fitL (spansAdd size l (s.fst, s.snd)).fst ∧ fitL (spansSet size l (s.fst, s.snd) true).fst) ∧
 bo
 (bo ((spansAdd size l (s.fst, s.snd)).fst = (spansSet size l (s.fst, s.snd) true).fst) = true ∧
 (spansAdd size l (s.fst, s.snd)).snd = (spansSet size l (s.fst, s.snd) true).snd) =
 true) :
 Con Try.prog f_law_SpansAdds law_SpansAdds_ct := ⟨law_SpansAdds_ok.able rfl, fun x hx =>
 con_eq hC (L := []) (trivial) law_SpansAdds_ok (ct := law_SpansAdds_ct) (depth := 0) rfl (by kernel_rfl) x (H (@id (Int × (List (Int × Int)) × (Int × Int)) x).1 (@id (Int × (List (Int × Int)) × (Int × Int)) x).2.1 (@id (Int × (List (Int × Int)) × (Int × Int)) x).2.2 (mpr' hx (by kernel_rfl))) (by kernel_rfl)⟩

end Go.Proofs.Ytogjhebilbbdjaa
