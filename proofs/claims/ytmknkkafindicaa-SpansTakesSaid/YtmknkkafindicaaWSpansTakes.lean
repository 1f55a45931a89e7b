/- The typed conditions of the functions, printed by a program of the claim's author; each gives the contract of its function. Conditions: none. -/
import Derived.Test.YtmknkkafindicaaGSpansTakes
import Derived.Test.YtmknkkafindicaaVpA
import Derived.Test.YtmknkkafindicaaVpB
import Derived.Test.YtmknkkafindicaaVpC
import Derived.Test.YtmknkkafindicaaVpE
import Derived.Test.YtmknkkafindicaaVpJ
import Derived.Test.YtmknkkafindicaaVpP
import Derived.Test.YtmknkkafindicaaVpR
import Derived.Test.YtmknkkafindicaaBase
set_option linter.unusedVariables false
set_option linter.unusedSimpArgs false
set_option maxRecDepth 100000
namespace Go.Proofs.Ytmknkkafindicaa
open Go.Vc Go.Fu

theorem spans_May_vc (hC : Cons Try.prog [])
    (H : ∀ (size : Int) (l : List (Int × Int)), (fitL l) →
  ((size < 0 ∨ 600 < size) ∨ 40 < (↑l.length : Int) → false = bo (spansOk size l)) ∧
  (¬((size < 0 ∨ 600 < size) ∨ 40 < (↑l.length : Int)) →
    ∃ (I : Int → Int → Prop),
      ∃ (m : Int → Int → Nat),
        I (-1) 0 ∧
          ∀ (last x : Int),
            I last x →
              (x < (↑l.length : Int) →
                  0 ≤ x ∧
                    x < (↑l.length : Int) ∧
                      (((gt l x).fst ≤ last ∨ (gt l x).snd ≤ (gt l x).fst) ∨ size < (gt l x).snd →
                          false = bo (spansOk size l)) ∧
                        (¬(((gt l x).fst ≤ last ∨ (gt l x).snd ≤ (gt l x).fst) ∨ size < (gt l x).snd) →
                          inI64 (x + 1) ∧ I (gt l x).snd (x + 1) ∧ m (gt l x).snd (x + 1) < m last x)) ∧
                (¬x < (↑l.length : Int) → true = bo (spansOk size l)))) :
    Con Try.prog f_spans_May spans_May_ct := ⟨spans_May_ok.able, fun x hx =>
  con_eq hC (L := []) (trivial) spans_May_ok (ct := spans_May_ct) (depth := 0) (by kernel_rfl) x (H (@id (Int × (List (Int × Int))) x).1 (@id (Int × (List (Int × Int))) x).2 (mpr' hx (by kernel_rfl))) (by kernel_rfl)⟩

theorem slices_Clone___api_Span_api_Span__vc (hC : Cons Try.prog [])
    (H : ∀ (s : List (Int × Int)), (fitM s) →
  ∀ (isnil : Prop),
  (isnil → (↑s.length : Int) = 0) → (isnil → [] = s) ∧ (¬isnil → (0 + s.length) * 16 ≤ 140737488355328 ∧ [] ++ s = s)) :
    Con Try.prog f_slices_Clone___api_Span_api_Span_ slices_Clone___api_Span_api_Span__ct := ⟨slices_Clone___api_Span_api_Span__ok.able, fun x hx =>
  con_eq hC (L := []) (trivial) slices_Clone___api_Span_api_Span__ok (ct := slices_Clone___api_Span_api_Span__ct) (depth := 0) (by kernel_rfl) x (H (@id ((List (Int × Int))) x) (mpr' hx (by kernel_rfl))) (by kernel_rfl)⟩

theorem spans_Without_vc (hC : Cons Try.prog [(f_slices_Clone___api_Span_api_Span_, slices_Clone___api_Span_api_Span__ct)])
    (H : ∀ (l : List (Int × Int)) (s : Int × Int), (spansPre l ∧ spanPre s) →
  ∃ (I : Int → List (Int × Int) → Prop),
  ∃ (m : Int → List (Int × Int) → Nat),
    (s.fst = s.fst ∧ s.snd = s.snd ∧ I (0 : Int) []) ∧
      ∀ (x : Int) (out : List (Int × Int)),
        I x out →
          (x < (↑l.length : Int) →
              (0 : Int) ≤ x ∧
                x < (↑l.length : Int) ∧
                  (out.length + (2 : Nat)) * (16 : Nat) ≤ (140737488355328 : Nat) ∧
                    inI64 (x + (1 : Int)) ∧
                      s.fst = s.fst ∧
                        s.snd = s.snd ∧
                          I (x + (1 : Int))
                              (out ++
                                [((gt l x).fst, min (gt l x).snd (max (gt l x).fst s.fst)),
                                  (max (gt l x).fst (min (gt l x).snd s.snd), (gt l x).snd)]) ∧
                            m (x + (1 : Int))
                                (out ++
                                  [((gt l x).fst, min (gt l x).snd (max (gt l x).fst s.fst)),
                                    (max (gt l x).fst (min (gt l x).snd s.snd), (gt l x).snd)]) <
                              m x out) ∧
            (¬x < (↑l.length : Int) →
              (s.fst = s.snd → fitM l ∧ l = without l s) ∧
                (¬s.fst = s.snd →
                  ∃ (I : Int → Prop),
                    ∃ (m : Int → Nat),
                      (s.fst = s.fst ∧ s.snd = s.snd ∧ out = out ∧ I (0 : Int)) ∧
                        ∀ (x : Int),
                          I x →
                            (x < (↑out.length : Int) →
                                (0 : Int) ≤ x ∧
                                  x < (↑out.length : Int) ∧
                                    ((gt out x).snd ≤ (gt out x).fst →
                                        (x = (-1 : Int) → out = without l s) ∧
                                          (¬x = (-1 : Int) →
                                            inI64 (x + (1 : Int)) ∧
                                              ∃ (I : Int → Int → List (Int × Int) → Prop),
                                                ∃ (m : Int → Int → List (Int × Int) → Nat),
                                                  (s.fst = s.fst ∧
                                                      s.snd = s.snd ∧
                                                        (gt out x).fst = (gt out x).fst ∧
                                                          (gt out x).snd = (gt out x).snd ∧ I x (x + (1 : Int)) out) ∧
                                                    ∀ (i j : Int) (s_1 : List (Int × Int)),
                                                      I i j s_1 →
                                                        (j < (↑s_1.length : Int) →
                                                            (0 : Int) ≤ j ∧
                                                              j < (↑s_1.length : Int) ∧
                                                                (¬(gt s_1 j).snd ≤ (gt s_1 j).fst →
                                                                    (0 : Int) ≤ i ∧
                                                                      i < (↑s_1.length : Int) ∧
                                                                        inI64 (i + (1 : Int)) ∧
                                                                          inI64 (j + (1 : Int)) ∧
                                                                            s.fst = s.fst ∧
                                                                              s.snd = s.snd ∧
                                                                                (gt out x).fst = (gt out x).fst ∧
                                                                                  (gt out x).snd = (gt out x).snd ∧
                                                                                    I (i + (1 : Int)) (j + (1 : Int))
                                                                                        (s_1.set i.toNat
                                                                                          ((gt s_1 j).fst,
                                                                                            (gt s_1 j).snd)) ∧
                                                                                      m (i + (1 : Int)) (j + (1 : Int))
                                                                                          (s_1.set i.toNat
                                                                                            ((gt s_1 j).fst,
                                                                                              (gt s_1 j).snd)) <
                                                                                        m i j s_1) ∧
                                                                  (¬¬(gt s_1 j).snd ≤ (gt s_1 j).fst →
                                                                    inI64 (j + (1 : Int)) ∧
                                                                      s.fst = s.fst ∧
                                                                        s.snd = s.snd ∧
                                                                          (gt out x).fst = (gt out x).fst ∧
                                                                            (gt out x).snd = (gt out x).snd ∧
                                                                              I i (j + (1 : Int)) s_1 ∧
                                                                                m i (j + (1 : Int)) s_1 < m i j s_1)) ∧
                                                          (¬j < (↑s_1.length : Int) →
                                                            (0 : Int) ≤ i ∧
                                                              i ≤ (↑s_1.length : Int) ∧
                                                                (↑s_1.length : Int) ≤ (↑s_1.length : Int) ∧
                                                                  (0 : Int) ≤ (0 : Int) ∧
                                                                    (0 : Int) ≤ i ∧
                                                                      i ≤
                                                                          (↑(List.take i.toNat s_1 ++
                                                                                    List.replicate
                                                                                      ((↑s_1.length : Int) - i).toNat
                                                                                      ((0 : Int), (0 : Int)) ++
                                                                                  List.drop
                                                                                    (i.toNat +
                                                                                      ((↑s_1.length : Int) - i).toNat)
                                                                                    s_1).length :
                                                                            Int) ∧
                                                                        (0 : Int) = (0 : Int) ∧
                                                                          List.take (i - (0 : Int)).toNat
                                                                              (List.take i.toNat s_1 ++
                                                                                  List.replicate
                                                                                    ((↑s_1.length : Int) - i).toNat
                                                                                    ((0 : Int), (0 : Int)) ++
                                                                                List.drop
                                                                                  (i.toNat +
                                                                                    ((↑s_1.length : Int) - i).toNat)
                                                                                  s_1) =
                                                                            without l s))) ∧
                                      (¬(gt out x).snd ≤ (gt out x).fst →
                                        inI64 (x + (1 : Int)) ∧
                                          s.fst = s.fst ∧
                                            s.snd = s.snd ∧ out = out ∧ I (x + (1 : Int)) ∧ m (x + (1 : Int)) < m x)) ∧
                              (¬x < (↑out.length : Int) →
                                ((-1 : Int) = (-1 : Int) → out = without l s) ∧
                                  (¬(-1 : Int) = (-1 : Int) →
                                    inI64 ((-1 : Int) + (1 : Int)) ∧
                                      ∃ (I : Int → Int → List (Int × Int) → Prop),
                                        ∃ (m : Int → Int → List (Int × Int) → Nat),
                                          (s.fst = s.fst ∧ s.snd = s.snd ∧ I (-1 : Int) ((-1 : Int) + (1 : Int)) out) ∧
                                            ∀ (i j : Int) (s_1 : List (Int × Int)),
                                              I i j s_1 →
                                                (j < (↑s_1.length : Int) →
                                                    (0 : Int) ≤ j ∧
                                                      j < (↑s_1.length : Int) ∧
                                                        (¬(gt s_1 j).snd ≤ (gt s_1 j).fst →
                                                            (0 : Int) ≤ i ∧
                                                              i < (↑s_1.length : Int) ∧
                                                                inI64 (i + (1 : Int)) ∧
                                                                  inI64 (j + (1 : Int)) ∧
                                                                    s.fst = s.fst ∧
                                                                      s.snd = s.snd ∧
                                                                        I (i + (1 : Int)) (j + (1 : Int))
                                                                            (s_1.set i.toNat
                                                                              ((gt s_1 j).fst, (gt s_1 j).snd)) ∧
                                                                          m (i + (1 : Int)) (j + (1 : Int))
                                                                              (s_1.set i.toNat
                                                                                ((gt s_1 j).fst, (gt s_1 j).snd)) <
                                                                            m i j s_1) ∧
                                                          (¬¬(gt s_1 j).snd ≤ (gt s_1 j).fst →
                                                            inI64 (j + (1 : Int)) ∧
                                                              s.fst = s.fst ∧
                                                                s.snd = s.snd ∧
                                                                  I i (j + (1 : Int)) s_1 ∧
                                                                    m i (j + (1 : Int)) s_1 < m i j s_1)) ∧
                                                  (¬j < (↑s_1.length : Int) →
                                                    (0 : Int) ≤ i ∧
                                                      i ≤ (↑s_1.length : Int) ∧
                                                        (↑s_1.length : Int) ≤ (↑s_1.length : Int) ∧
                                                          (0 : Int) ≤ (0 : Int) ∧
                                                            (0 : Int) ≤ i ∧
                                                              i ≤
                                                                  (↑(List.take i.toNat s_1 ++
                                                                            List.replicate
                                                                              ((↑s_1.length : Int) - i).toNat
                                                                              ((0 : Int), (0 : Int)) ++
                                                                          List.drop
                                                                            (i.toNat + ((↑s_1.length : Int) - i).toNat)
                                                                            s_1).length :
                                                                    Int) ∧
                                                                (0 : Int) = (0 : Int) ∧
                                                                  List.take (i - (0 : Int)).toNat
                                                                      (List.take i.toNat s_1 ++
                                                                          List.replicate ((↑s_1.length : Int) - i).toNat
                                                                            ((0 : Int), (0 : Int)) ++
                                                                        List.drop
                                                                          (i.toNat + ((↑s_1.length : Int) - i).toNat)
                                                                          s_1) =
                                                                    without l s)))))) :
    Con Try.prog f_spans_Without spans_Without_ct := ⟨spans_Without_ok.able, fun x hx =>
  con_eq hC (L := [(f_slices_DeleteFunc___api_Span_api_Span_, slices_DeleteFunc___api_Span_api_Span__fi), (f_slices_IndexFunc___api_Span_api_Span_, slices_IndexFunc___api_Span_api_Span__fi), (f_spans_Without_1, spans_Without_1_fi)]) (⟨slices_DeleteFunc___api_Span_api_Span__ok, slices_IndexFunc___api_Span_api_Span__ok, spans_Without_1_ok, trivial⟩) spans_Without_ok (ct := spans_Without_ct) (depth := 4) (by kernel_rfl) x (H (@id ((List (Int × Int)) × (Int × Int)) x).1 (@id ((List (Int × Int)) × (Int × Int)) x).2 (mpr' hx (by kernel_rfl))) (by kernel_rfl)⟩

theorem spans_Take_vc (hC : Cons Try.prog [(f_spans_May, spans_May_ct), (f_spans_Without, spans_Without_ctv)])
    (H : ∀ (size : Int) (l : List (Int × Int)) (many : Int), (fitL l) →
  fitL l ∧
  (¬bo (spansOk size l) = true →
      ((0 : Int), (0 : Int)) = (spansTake size l many).fst ∧
        [] = (spansTake size l many).snd.fst ∧ (4 : Int) = (spansTake size l many).snd.snd) ∧
    (¬¬bo (spansOk size l) = true →
      (many < (1 : Int) →
          ((0 : Int), (0 : Int)) = (spansTake size l many).fst ∧
            [] = (spansTake size l many).snd.fst ∧ (2 : Int) = (spansTake size l many).snd.snd) ∧
        (¬many < (1 : Int) →
          ((↑l.length : Int) = (0 : Int) →
              ((0 : Int), (0 : Int)) = (spansTake size l many).fst ∧
                [] = (spansTake size l many).snd.fst ∧ (7 : Int) = (spansTake size l many).snd.snd) ∧
            (¬(↑l.length : Int) = (0 : Int) →
              (0 : Int) ≤ (0 : Int) ∧
                (0 : Int) < (↑l.length : Int) ∧
                  inI64 ((gt l (0 : Int)).snd - (gt l (0 : Int)).fst) ∧
                    inI64 ((gt l (0 : Int)).fst + min many ((gt l (0 : Int)).snd - (gt l (0 : Int)).fst)) ∧
                      (spansPre l ∧
                          spanPre
                            ((gt l (0 : Int)).fst,
                              (gt l (0 : Int)).fst + min many ((gt l (0 : Int)).snd - (gt l (0 : Int)).fst))) ∧
                        ((gt l (0 : Int)).fst,
                              (gt l (0 : Int)).fst + min many ((gt l (0 : Int)).snd - (gt l (0 : Int)).fst)) =
                            (spansTake size l many).fst ∧
                          without l
                                ((gt l (0 : Int)).fst,
                                  (gt l (0 : Int)).fst + min many ((gt l (0 : Int)).snd - (gt l (0 : Int)).fst)) =
                              (spansTake size l many).snd.fst ∧
                            (0 : Int) = (spansTake size l many).snd.snd)))) :
    Con Try.prog f_spans_Take spans_Take_ct := ⟨spans_Take_ok.able, fun x hx =>
  con_eq hC (L := []) (trivial) spans_Take_ok (ct := spans_Take_ct) (depth := 0) (by kernel_rfl) x (H (@id (Int × (List (Int × Int)) × Int) x).1 (@id (Int × (List (Int × Int)) × Int) x).2.1 (@id (Int × (List (Int × Int)) × Int) x).2.2 (mpr' hx (by kernel_rfl))) (by kernel_rfl)⟩

theorem ref_SpansMay_vc (hC : Cons Try.prog [])
    (H : ∀ (size : Int) (l : List (Int × Int)), (fitL l) →
  ((size < 0 ∨ 600 < size) ∨ 40 < (↑l.length : Int) → false = bo (spansOk size l)) ∧
  (¬((size < 0 ∨ 600 < size) ∨ 40 < (↑l.length : Int)) →
    ∃ (I : Int → Prop),
      ∃ (m : Int → Nat),
        I 0 ∧
          ∀ (x : Int),
            I x →
              (x < (↑l.length : Int) →
                  0 ≤ x ∧
                    x < (↑l.length : Int) ∧
                      (¬(((gt l x).fst < 0 ∨ (gt l x).snd ≤ (gt l x).fst) ∨ size < (gt l x).snd) ∧ 0 < x →
                          inI64 (x - 1)) ∧
                        (¬(((gt l x).fst < 0 ∨ (gt l x).snd ≤ (gt l x).fst) ∨ size < (gt l x).snd) ∧ 0 < x →
                            0 ≤ x - 1) ∧
                          (¬(((gt l x).fst < 0 ∨ (gt l x).snd ≤ (gt l x).fst) ∨ size < (gt l x).snd) ∧ 0 < x →
                              x - 1 < (↑l.length : Int)) ∧
                            ((((gt l x).fst < 0 ∨ (gt l x).snd ≤ (gt l x).fst) ∨ size < (gt l x).snd) ∨
                                  0 < x ∧ (gt l x).fst ≤ (gt l (x - 1)).snd →
                                false = bo (spansOk size l)) ∧
                              (¬((((gt l x).fst < 0 ∨ (gt l x).snd ≤ (gt l x).fst) ∨ size < (gt l x).snd) ∨
                                    0 < x ∧ (gt l x).fst ≤ (gt l (x - 1)).snd) →
                                inI64 (x + 1) ∧ I (x + 1) ∧ m (x + 1) < m x)) ∧
                (¬x < (↑l.length : Int) → true = bo (spansOk size l)))) :
    Con Try.prog f_ref_SpansMay ref_SpansMay_ct := ⟨ref_SpansMay_ok.able, fun x hx =>
  con_eq hC (L := []) (trivial) ref_SpansMay_ok (ct := ref_SpansMay_ct) (depth := 0) (by kernel_rfl) x (H (@id (Int × (List (Int × Int))) x).1 (@id (Int × (List (Int × Int))) x).2 (mpr' hx (by kernel_rfl))) (by kernel_rfl)⟩

theorem ref_inSet_vc (hC : Cons Try.prog [])
    (H : ∀ (size : Int) (l : List (Int × Int)), (spansOk size l) →
  size = size ∧
  0 ≤ size ∧
    1 * size.toNat ≤ 140737488355328 ∧
      ∃ (I : Int → List Bool → Prop),
        ∃ (m : Int → List Bool → Nat),
          I 0 (List.replicate size.toNat false) ∧
            ∀ (x : Int) (out : List Bool),
              I x out →
                (x < (↑l.length : Int) →
                    0 ≤ x ∧
                      x < (↑l.length : Int) ∧
                        ∃ (I_1 : Int → List Bool → Prop),
                          ∃ (m_1 : Int → List Bool → Nat),
                            ((gt l x).fst = (gt l x).fst ∧ (gt l x).snd = (gt l x).snd ∧ I_1 (gt l x).fst out) ∧
                              ∀ (i : Int) (out_1 : List Bool),
                                I_1 i out_1 →
                                  (i < (gt l x).snd →
                                      0 ≤ i ∧
                                        i < (↑out_1.length : Int) ∧
                                          inI64 (i + 1) ∧
                                            (gt l x).fst = (gt l x).fst ∧
                                              (gt l x).snd = (gt l x).snd ∧
                                                I_1 (i + 1) (out_1.set i.toNat true) ∧
                                                  m_1 (i + 1) (out_1.set i.toNat true) < m_1 i out_1) ∧
                                    (¬i < (gt l x).snd → inI64 (x + 1) ∧ I (x + 1) out_1 ∧ m (x + 1) out_1 < m x out)) ∧
                  (¬x < (↑l.length : Int) → out = maskOf size l)) :
    Con Try.prog f_ref_inSet ref_inSet_ct := ⟨ref_inSet_ok.able, fun x hx =>
  con_eq hC (L := []) (trivial) ref_inSet_ok (ct := ref_inSet_ct) (depth := 0) (by kernel_rfl) x (H (@id (Int × (List (Int × Int))) x).1 (@id (Int × (List (Int × Int))) x).2 (mpr' hx (by kernel_rfl))) (by kernel_rfl)⟩

theorem ref_setOf_vc (hC : Cons Try.prog [])
    (H : ∀ (in_ : List Bool), (maskPre in_) →
  ∃ (I : Int → List (Int × Int) → Prop),
  ∃ (m : Int → List (Int × Int) → Nat),
    I 0 [] ∧
      ∀ (x : Int) (out : List (Int × Int)),
        I x out →
          (x < (↑in_.length : Int) →
              0 ≤ x ∧
                x < (↑in_.length : Int) ∧
                  (¬gt in_ x = true → inI64 (x + 1) ∧ I (x + 1) out ∧ m (x + 1) out < m x out) ∧
                    (¬¬gt in_ x = true →
                      (0 < x → inI64 (x - 1)) ∧
                        (0 < x → 0 ≤ x - 1) ∧
                          (0 < x → x - 1 < (↑in_.length : Int)) ∧
                            (0 < x ∧ gt in_ (x - 1) = true →
                                inI64 ((↑out.length : Int) - 1) ∧
                                  inI64 (x + 1) ∧
                                    0 ≤ (↑out.length : Int) - 1 ∧
                                      (↑out.length : Int) - 1 < (↑out.length : Int) ∧
                                        inI64 (x + 1) ∧
                                          I (x + 1)
                                              (out.set ((↑out.length : Int) - 1).toNat
                                                ((gt out ((↑out.length : Int) - 1)).fst, x + 1)) ∧
                                            m (x + 1)
                                                (out.set ((↑out.length : Int) - 1).toNat
                                                  ((gt out ((↑out.length : Int) - 1)).fst, x + 1)) <
                                              m x out) ∧
                              (¬(0 < x ∧ gt in_ (x - 1) = true) →
                                inI64 (x + 1) ∧
                                  (out.length + 1) * 16 ≤ 140737488355328 ∧
                                    inI64 (x + 1) ∧
                                      I (x + 1) (out ++ [(x, x + 1)]) ∧ m (x + 1) (out ++ [(x, x + 1)]) < m x out))) ∧
            (¬x < (↑in_.length : Int) →
              (40 < (↑out.length : Int) → [] = (setOf in_).fst ∧ 8 = (setOf in_).snd) ∧
                (¬40 < (↑out.length : Int) → out = (setOf in_).fst ∧ 0 = (setOf in_).snd))) :
    Con Try.prog f_ref_setOf ref_setOf_ct := ⟨ref_setOf_ok.able, fun x hx =>
  con_eq hC (L := []) (trivial) ref_setOf_ok (ct := ref_setOf_ct) (depth := 0) (by kernel_rfl) x (H (@id (List Bool) x) (mpr' hx (by kernel_rfl))) (by kernel_rfl)⟩

theorem ref_SpansTake_vc (hC : Cons Try.prog [(f_ref_SpansMay, ref_SpansMay_ct), (f_ref_inSet, ref_inSet_ct), (f_ref_setOf, ref_setOf_ct)])
    (H : ∀ (size : Int) (l : List (Int × Int)) (many : Int), (takePre l many) →
  fitL l ∧
  (¬bo (spansOk size l) = true →
      ((0 : Int), (0 : Int)) = (spansTake size l many).fst ∧
        [] = (spansTake size l many).snd.fst ∧ (4 : Int) = (spansTake size l many).snd.snd) ∧
    (¬¬bo (spansOk size l) = true →
      (many < (1 : Int) →
          ((0 : Int), (0 : Int)) = (spansTake size l many).fst ∧
            [] = (spansTake size l many).snd.fst ∧ (2 : Int) = (spansTake size l many).snd.snd) ∧
        (¬many < (1 : Int) →
          ((↑l.length : Int) = (0 : Int) →
              ((0 : Int), (0 : Int)) = (spansTake size l many).fst ∧
                [] = (spansTake size l many).snd.fst ∧ (7 : Int) = (spansTake size l many).snd.snd) ∧
            (¬(↑l.length : Int) = (0 : Int) →
              spansOk size l ∧
                (0 : Int) ≤ (0 : Int) ∧
                  (0 : Int) < (↑l.length : Int) ∧
                    ∃ (I : Int → Int → List Bool → Prop),
                      ∃ (m : Int → Int → List Bool → Nat),
                        ((0 : Int) = (0 : Int) ∧ (0 : Int) = (0 : Int) ∧ I many (gt l (0 : Int)).fst (maskOf size l)) ∧
                          ∀ (many_1 hi : Int) («in» : List Bool),
                            I many_1 hi «in» →
                              (0 : Int) ≤ (0 : Int) ∧
                                (0 : Int) < (↑l.length : Int) ∧
                                  (hi < (gt l (0 : Int)).snd ∧ (0 : Int) < many_1 →
                                      (0 : Int) ≤ hi ∧
                                        hi < (↑«in».length : Int) ∧
                                          inI64 (hi + (1 : Int)) ∧
                                            inI64 (many_1 - (1 : Int)) ∧
                                              (0 : Int) = (0 : Int) ∧
                                                (0 : Int) = (0 : Int) ∧
                                                  I (many_1 - (1 : Int)) (hi + (1 : Int)) («in».set hi.toNat false) ∧
                                                    m (many_1 - (1 : Int)) (hi + (1 : Int)) («in».set hi.toNat false) <
                                                      m many_1 hi «in») ∧
                                    (¬(hi < (gt l (0 : Int)).snd ∧ (0 : Int) < many_1) →
                                      maskPre «in» ∧
                                        (0 : Int) ≤ (0 : Int) ∧
                                          (0 : Int) < (↑l.length : Int) ∧
                                            ((gt l (0 : Int)).fst, hi) = (spansTake size l many).fst ∧
                                              (setOf «in»).fst = (spansTake size l many).snd.fst ∧
                                                (0 : Int) = (spansTake size l many).snd.snd))))) :
    Con Try.prog f_ref_SpansTake ref_SpansTake_ct := ⟨ref_SpansTake_ok.able, fun x hx =>
  con_eq hC (L := []) (trivial) ref_SpansTake_ok (ct := ref_SpansTake_ct) (depth := 0) (by kernel_rfl) x (H (@id (Int × (List (Int × Int)) × Int) x).1 (@id (Int × (List (Int × Int)) × Int) x).2.1 (@id (Int × (List (Int × Int)) × Int) x).2.2 (mpr' hx (by kernel_rfl))) (by kernel_rfl)⟩

theorem law_sameSpans_vc (hC : Cons Try.prog [])
    (H : ∀ (a : List (Int × Int)) (b : List (Int × Int)), (fitL a ∧ fitL b) →
  ((↑a.length : Int) ≠ (↑b.length : Int) → false = bo (a = b)) ∧
  (¬(↑a.length : Int) ≠ (↑b.length : Int) →
    ∃ (I : Int → Prop),
      ∃ (m : Int → Nat),
        I 0 ∧
          ∀ (i : Int),
            I i →
              (i < (↑a.length : Int) →
                  0 ≤ i ∧
                    i < (↑a.length : Int) ∧
                      0 ≤ i ∧
                        i < (↑b.length : Int) ∧
                          (¬((gt a i).fst = (gt b i).fst ∧ (gt a i).snd = (gt b i).snd) → false = bo (a = b)) ∧
                            (¬¬((gt a i).fst = (gt b i).fst ∧ (gt a i).snd = (gt b i).snd) →
                              inI64 (i + 1) ∧ I (i + 1) ∧ m (i + 1) < m i)) ∧
                (¬i < (↑a.length : Int) → true = bo (a = b)))) :
    Con Try.prog f_law_sameSpans law_sameSpans_ct := ⟨law_sameSpans_ok.able, fun x hx =>
  con_eq hC (L := []) (trivial) law_sameSpans_ok (ct := law_sameSpans_ct) (depth := 0) (by kernel_rfl) x (H (@id ((List (Int × Int)) × (List (Int × Int))) x).1 (@id ((List (Int × Int)) × (List (Int × Int))) x).2 (mpr' hx (by kernel_rfl))) (by kernel_rfl)⟩

theorem law_SpansTakes_vc (hC : Cons Try.prog [(f_spans_Take, spans_Take_ct), (f_ref_SpansTake, ref_SpansTake_ct), (f_law_sameSpans, law_sameSpans_ct)])
    (H : ∀ (size : Int) (l : List (Int × Int)) (many : Int), ((IntKind.i64.min ≤ size ∧ size ≤ IntKind.i64.max) ∧
  (l.length ≤ 140737488351232 ∧
      ∀ (x : Int × Int),
        List.Mem x l →
          (IntKind.i64.min ≤ x.1 ∧ x.1 ≤ IntKind.i64.max) ∧ IntKind.i64.min ≤ x.2 ∧ x.2 ≤ IntKind.i64.max) ∧
    IntKind.i64.min ≤ many ∧ many ≤ IntKind.i64.max) →
  fitL l ∧
  takePre l many ∧
    ((spansTake size l many).fst.fst = (spansTake size l many).fst.fst ∧
          (spansTake size l many).fst.snd = (spansTake size l many).fst.snd →
        fitL (spansTake size l many).snd.fst ∧ fitL (spansTake size l many).snd.fst) ∧
      bo
          ((((spansTake size l many).fst.fst = (spansTake size l many).fst.fst ∧
                (spansTake size l many).fst.snd = (spansTake size l many).fst.snd) ∧
              bo ((spansTake size l many).snd.fst = (spansTake size l many).snd.fst) = true) ∧
            (spansTake size l many).snd.snd = (spansTake size l many).snd.snd) =
        true) :
    Con Try.prog f_law_SpansTakes law_SpansTakes_ct := ⟨law_SpansTakes_ok.able, fun x hx =>
  con_eq hC (L := []) (trivial) law_SpansTakes_ok (ct := law_SpansTakes_ct) (depth := 0) (by kernel_rfl) x (H (@id (Int × (List (Int × Int)) × Int) x).1 (@id (Int × (List (Int × Int)) × Int) x).2.1 (@id (Int × (List (Int × Int)) × Int) x).2.2 (mpr' hx (by kernel_rfl))) (by kernel_rfl)⟩

end Go.Proofs.Ytmknkkafindicaa
