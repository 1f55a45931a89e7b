/- The typed conditions of the functions, printed by a program of the claim's author; each gives the contract of its function. Conditions: none. -/
import Derived.Test.YtgnhlecfladigaaGSpansMays
import Derived.Test.YtgnhlecfladigaaVpA
import Derived.Test.YtgnhlecfladigaaVpB
import Derived.Test.YtgnhlecfladigaaBase
set_option linter.unusedVariables false
set_option linter.unusedSimpArgs false
set_option maxRecDepth 100000
namespace Go.Proofs.Ytgnhlecfladigaa
open Go.Vc Go.Fu

theorem spans_May_vc (hC : Cons Try.prog [])
    (H : ∀ (size : Int) (l : List (Int × Int)), (fitL l) →
  ((size < 0 ∨ 600 < size) ∨ 40 < (↑l.length : Int) → false = bo (spansOk size l)) ∧
  (¬((size < 0 ∨ 600 < size) ∨ 40 < (↑l.length : Int)) →
    ∃ (I : Int → Int → Prop),
      ∃ (m : Int → Int → Nat),
        I (-1) 0 ∧
          ∀ (last x : Int),
            I last x →
              (x < (↑l.length : Int) →
                  0 ≤ x ∧
                    x < (↑l.length : Int) ∧
                      (((gt l x).fst ≤ last ∨ (gt l x).snd ≤ (gt l x).fst) ∨ size < (gt l x).snd →
                          false = bo (spansOk size l)) ∧
                        (¬(((gt l x).fst ≤ last ∨ (gt l x).snd ≤ (gt l x).fst) ∨ size < (gt l x).snd) →
                          inI64 (x + 1) ∧ I (gt l x).snd (x + 1) ∧ m (gt l x).snd (x + 1) < m last x)) ∧
                (¬x < (↑l.length : Int) → true = bo (spansOk size l)))) :
    Con Try.prog f_spans_May spans_May_ct := fun x hx =>
  con_eq hC (L := []) (trivial) spans_May_ok (ct := spans_May_ct) (depth := 0) (by kernel_rfl) x (H (@id (Int × (List (Int × Int))) x).1 (@id (Int × (List (Int × Int))) x).2 (mpr' hx (by kernel_rfl))) (by kernel_rfl)

theorem ref_SpansMay_vc (hC : Cons Try.prog [])
    (H : ∀ (size : Int) (l : List (Int × Int)), (fitL l) →
  ((size < 0 ∨ 600 < size) ∨ 40 < (↑l.length : Int) → false = bo (spansOk size l)) ∧
  (¬((size < 0 ∨ 600 < size) ∨ 40 < (↑l.length : Int)) →
    ∃ (I : Int → Prop),
      ∃ (m : Int → Nat),
        I 0 ∧
          ∀ (x : Int),
            I x →
              (x < (↑l.length : Int) →
                  0 ≤ x ∧
                    x < (↑l.length : Int) ∧
                      (¬(((gt l x).fst < 0 ∨ (gt l x).snd ≤ (gt l x).fst) ∨ size < (gt l x).snd) ∧ 0 < x →
                          inI64 (x - 1)) ∧
                        (¬(((gt l x).fst < 0 ∨ (gt l x).snd ≤ (gt l x).fst) ∨ size < (gt l x).snd) ∧ 0 < x →
                            0 ≤ x - 1) ∧
                          (¬(((gt l x).fst < 0 ∨ (gt l x).snd ≤ (gt l x).fst) ∨ size < (gt l x).snd) ∧ 0 < x →
                              x - 1 < (↑l.length : Int)) ∧
                            ((((gt l x).fst < 0 ∨ (gt l x).snd ≤ (gt l x).fst) ∨ size < (gt l x).snd) ∨
                                  0 < x ∧ (gt l x).fst ≤ (gt l (x - 1)).snd →
                                false = bo (spansOk size l)) ∧
                              (¬((((gt l x).fst < 0 ∨ (gt l x).snd ≤ (gt l x).fst) ∨ size < (gt l x).snd) ∨
                                    0 < x ∧ (gt l x).fst ≤ (gt l (x - 1)).snd) →
                                inI64 (x + 1) ∧ I (x + 1) ∧ m (x + 1) < m x)) ∧
                (¬x < (↑l.length : Int) → true = bo (spansOk size l)))) :
    Con Try.prog f_ref_SpansMay ref_SpansMay_ct := fun x hx =>
  con_eq hC (L := []) (trivial) ref_SpansMay_ok (ct := ref_SpansMay_ct) (depth := 0) (by kernel_rfl) x (H (@id (Int × (List (Int × Int))) x).1 (@id (Int × (List (Int × Int))) x).2 (mpr' hx (by kernel_rfl))) (by kernel_rfl)

theorem law_SpansMays_vc (hC : Cons Try.prog [(f_spans_May, spans_May_ct), (f_ref_SpansMay, ref_SpansMay_ct)])
    (H : ∀ (size : Int) (l : List (Int × Int)), ((IntKind.i64.min ≤ size ∧ size ≤ IntKind.i64.max) ∧
  l.length ≤ 140737488351232 ∧
    ∀ (x : Int × Int),
      List.Mem x l → (IntKind.i64.min ≤ x.1 ∧ x.1 ≤ IntKind.i64.max) ∧ IntKind.i64.min ≤ x.2 ∧ x.2 ≤ IntKind.i64.max) →
  fitL l ∧ fitL l ∧ bo (bo (spansOk size l) = true ↔ bo (spansOk size l) = true) = true) :
    Con Try.prog f_law_SpansMays law_SpansMays_ct := fun x hx =>
  con_eq hC (L := []) (trivial) law_SpansMays_ok (ct := law_SpansMays_ct) (depth := 0) (by kernel_rfl) x (H (@id (Int × (List (Int × Int))) x).1 (@id (Int × (List (Int × Int))) x).2 (mpr' hx (by kernel_rfl))) (by kernel_rfl)

end Go.Proofs.Ytgnhlecfladigaa
