/- The typed conditions of the functions, printed by a program of the claim's author; each gives the contract of its function. Conditions: none. -/
import Derived.Test.YtcgggoaefceokaaGSpansWidens
import Derived.Test.YtcgggoaefceokaaVpA
import Derived.Test.YtcgggoaefceokaaVpB
import Derived.Test.YtcgggoaefceokaaVpC
import Derived.Test.YtcgggoaefceokaaVpD
import Derived.Test.YtcgggoaefceokaaVpE
import Derived.Test.YtcgggoaefceokaaVpG
import Derived.Test.YtcgggoaefceokaaVpI
import Derived.Test.YtcgggoaefceokaaVpK
import Derived.Test.YtcgggoaefceokaaBase
set_option linter.unusedVariables false
set_option linter.unusedSimpArgs false
set_option maxRecDepth 100000
namespace Go.Proofs.Ytcgggoaefceokaa
open Go.Vc Go.Fu

theorem spans_Widened_vc (hC : Cons Try.prog [])
    (H : ∀ (text : List UInt8) (s : Int × Int), (widPre text s) →
  (0 : Int) ≤ (0 : Int) ∧
  (0 : Int) ≤ s.fst ∧
    s.fst ≤ (↑text.length : Int) ∧
      inI64 ((↑(List.drop (Int.toNat (0 : Int)) (List.take s.fst.toNat text)).length : Int) - (1 : Int)) ∧
        ∃ (I : Int → Prop),
          ∃ (m : Int → Nat),
            (s.fst = s.fst ∧
                s.snd = s.snd ∧
                  (0 : Int) = (0 : Int) ∧
                    (0 : Int) = (0 : Int) ∧
                      I ((↑(List.drop (Int.toNat (0 : Int)) (List.take s.fst.toNat text)).length : Int) - (1 : Int))) ∧
              ∀ (i : Int),
                I i →
                  ((0 : Int) ≤ i →
                      (0 : Int) ≤ i ∧
                        i < (↑(List.drop (Int.toNat (0 : Int)) (List.take s.fst.toNat text)).length : Int) ∧
                          ((↑(gt (List.drop (Int.toNat (0 : Int)) (List.take s.fst.toNat text)) i).toNat : Int) =
                                (10 : Int) →
                              inI64 (i + (1 : Int)) ∧
                                (0 : Int) ≤ s.snd ∧
                                  s.snd ≤ (↑text.length : Int) ∧
                                    (↑text.length : Int) ≤ (↑text.length : Int) ∧
                                      ((0 : Int) ≤
                                            Lib.indexByte
                                              (List.drop s.snd.toNat (List.take (↑text.length : Int).toNat text))
                                              (Int.toNat (10 : Int)).toUInt8 →
                                          inI64
                                              (Lib.indexByte
                                                  (List.drop s.snd.toNat (List.take (↑text.length : Int).toNat text))
                                                  (Int.toNat (10 : Int)).toUInt8 +
                                                (1 : Int)) ∧
                                            inI64
                                                (s.snd +
                                                  (Lib.indexByte
                                                      (List.drop s.snd.toNat
                                                        (List.take (↑text.length : Int).toNat text))
                                                      (Int.toNat (10 : Int)).toUInt8 +
                                                    (1 : Int))) ∧
                                              (i + (1 : Int),
                                                  s.snd +
                                                    (Lib.indexByte
                                                        (List.drop s.snd.toNat
                                                          (List.take (↑text.length : Int).toNat text))
                                                        (Int.toNat (10 : Int)).toUInt8 +
                                                      (1 : Int))) =
                                                widened text s) ∧
                                        (¬(0 : Int) ≤
                                              Lib.indexByte
                                                (List.drop s.snd.toNat (List.take (↑text.length : Int).toNat text))
                                                (Int.toNat (10 : Int)).toUInt8 →
                                          (i + (1 : Int), (↑text.length : Int)) = widened text s)) ∧
                            (¬(↑(gt (List.drop (Int.toNat (0 : Int)) (List.take s.fst.toNat text)) i).toNat : Int) =
                                  (10 : Int) →
                              inI64 (i - (1 : Int)) ∧
                                s.fst = s.fst ∧
                                  s.snd = s.snd ∧
                                    (0 : Int) = (0 : Int) ∧
                                      (0 : Int) = (0 : Int) ∧ I (i - (1 : Int)) ∧ m (i - (1 : Int)) < m i)) ∧
                    (¬(0 : Int) ≤ i →
                      inI64 ((-1 : Int) + (1 : Int)) ∧
                        (0 : Int) ≤ s.snd ∧
                          s.snd ≤ (↑text.length : Int) ∧
                            (↑text.length : Int) ≤ (↑text.length : Int) ∧
                              ((0 : Int) ≤
                                    Lib.indexByte (List.drop s.snd.toNat (List.take (↑text.length : Int).toNat text))
                                      (Int.toNat (10 : Int)).toUInt8 →
                                  inI64
                                      (Lib.indexByte (List.drop s.snd.toNat (List.take (↑text.length : Int).toNat text))
                                          (Int.toNat (10 : Int)).toUInt8 +
                                        (1 : Int)) ∧
                                    inI64
                                        (s.snd +
                                          (Lib.indexByte
                                              (List.drop s.snd.toNat (List.take (↑text.length : Int).toNat text))
                                              (Int.toNat (10 : Int)).toUInt8 +
                                            (1 : Int))) ∧
                                      ((-1 : Int) + (1 : Int),
                                          s.snd +
                                            (Lib.indexByte
                                                (List.drop s.snd.toNat (List.take (↑text.length : Int).toNat text))
                                                (Int.toNat (10 : Int)).toUInt8 +
                                              (1 : Int))) =
                                        widened text s) ∧
                                (¬(0 : Int) ≤
                                      Lib.indexByte (List.drop s.snd.toNat (List.take (↑text.length : Int).toNat text))
                                        (Int.toNat (10 : Int)).toUInt8 →
                                  ((-1 : Int) + (1 : Int), (↑text.length : Int)) = widened text s))) :
    Con Try.prog f_spans_Widened spans_Widened_ct := fun x hx =>
  con_eq hC (L := [(f_strings_LastIndexByte, strings_LastIndexByte_fi), (f_internal_bytealg_LastIndexByteString, internal_bytealg_LastIndexByteString_fi), (f_strings_IndexByte, strings_IndexByte_fi), (f_internal_stringslite_IndexByte, internal_stringslite_IndexByte_fi)]) (⟨strings_LastIndexByte_ok, internal_bytealg_LastIndexByteString_ok, strings_IndexByte_ok, internal_stringslite_IndexByte_ok, trivial⟩) spans_Widened_ok (ct := spans_Widened_ct) (depth := 4) (by kernel_rfl) x (H (@id (List UInt8 × (Int × Int)) x).1 (@id (List UInt8 × (Int × Int)) x).2 (mpr' hx (by kernel_rfl))) (by kernel_rfl)

theorem spans_Widen_vc (hC : Cons Try.prog [(f_spans_Widened, spans_Widened_ct)])
    (H : ∀ (text : List UInt8) (s : Int × Int), (fitS text) →
  (600 < (↑text.length : Int) → (0, 0) = (spansWiden text s).fst ∧ 1 = (spansWiden text s).snd) ∧
  (¬600 < (↑text.length : Int) →
    ((s.fst < 0 ∨ s.snd < s.fst) ∨ (↑text.length : Int) < s.snd →
        (0, 0) = (spansWiden text s).fst ∧ 2 = (spansWiden text s).snd) ∧
      (¬((s.fst < 0 ∨ s.snd < s.fst) ∨ (↑text.length : Int) < s.snd) →
        widPre text (s.fst, s.snd) ∧
          ((widened text (s.fst, s.snd)).fst, (widened text (s.fst, s.snd)).snd) = (spansWiden text s).fst ∧
            0 = (spansWiden text s).snd))) :
    Con Try.prog f_spans_Widen spans_Widen_ct := fun x hx =>
  con_eq hC (L := []) (trivial) spans_Widen_ok (ct := spans_Widen_ct) (depth := 0) (by kernel_rfl) x (H (@id (List UInt8 × (Int × Int)) x).1 (@id (List UInt8 × (Int × Int)) x).2 (mpr' hx (by kernel_rfl))) (by kernel_rfl)

theorem ref_SpansWiden_vc (hC : Cons Try.prog [])
    (H : ∀ (text : List UInt8) (s : Int × Int), (fitS text) →
  ((600 : Int) < (↑text.length : Int) →
    ((0 : Int), (0 : Int)) = (spansWiden text s).fst ∧ (1 : Int) = (spansWiden text s).snd) ∧
  (¬(600 : Int) < (↑text.length : Int) →
    ((s.fst < (0 : Int) ∨ s.snd < s.fst) ∨ (↑text.length : Int) < s.snd →
        ((0 : Int), (0 : Int)) = (spansWiden text s).fst ∧ (2 : Int) = (spansWiden text s).snd) ∧
      (¬((s.fst < (0 : Int) ∨ s.snd < s.fst) ∨ (↑text.length : Int) < s.snd) →
        ∃ (I : Int → Int → Prop),
          ∃ (m : Int → Int → Nat),
            ((0 : Int) = (0 : Int) ∧ (0 : Int) = (0 : Int) ∧ I s.fst s.snd) ∧
              ∀ (s_1 s_2 : Int),
                I s_1 s_2 →
                  ((0 : Int) < s_1 → inI64 (s_1 - (1 : Int))) ∧
                    ((0 : Int) < s_1 → (0 : Int) ≤ s_1 - (1 : Int)) ∧
                      ((0 : Int) < s_1 → s_1 - (1 : Int) < (↑text.length : Int)) ∧
                        ((0 : Int) < s_1 ∧ (↑(gt text (s_1 - (1 : Int))).toNat : Int) ≠ (10 : Int) →
                            inI64 (s_1 - (1 : Int)) ∧
                              (0 : Int) = (0 : Int) ∧
                                (0 : Int) = (0 : Int) ∧ I (s_1 - (1 : Int)) s_2 ∧ m (s_1 - (1 : Int)) s_2 < m s_1 s_2) ∧
                          (¬((0 : Int) < s_1 ∧ (↑(gt text (s_1 - (1 : Int))).toNat : Int) ≠ (10 : Int)) →
                            ∃ (I : Int → Int → Prop),
                              ∃ (m : Int → Int → Nat),
                                ((0 : Int) = (0 : Int) ∧ (0 : Int) = (0 : Int) ∧ I s_1 s_2) ∧
                                  ∀ (s_3 s_4 : Int),
                                    I s_3 s_4 →
                                      (s_4 < (↑text.length : Int) →
                                          inI64 (s_4 + (1 : Int)) ∧
                                            inI64 (s_4 + (1 : Int) - (1 : Int)) ∧
                                              (0 : Int) ≤ s_4 + (1 : Int) - (1 : Int) ∧
                                                s_4 + (1 : Int) - (1 : Int) < (↑text.length : Int) ∧
                                                  ((↑(gt text (s_4 + (1 : Int) - (1 : Int))).toNat : Int) = (10 : Int) →
                                                      (s_3, s_4 + (1 : Int)) = (spansWiden text s).fst ∧
                                                        (0 : Int) = (spansWiden text s).snd) ∧
                                                    (¬(↑(gt text (s_4 + (1 : Int) - (1 : Int))).toNat : Int) =
                                                          (10 : Int) →
                                                      (0 : Int) = (0 : Int) ∧
                                                        (0 : Int) = (0 : Int) ∧
                                                          I s_3 (s_4 + (1 : Int)) ∧
                                                            m s_3 (s_4 + (1 : Int)) < m s_3 s_4)) ∧
                                        (¬s_4 < (↑text.length : Int) →
                                          (s_3, s_4) = (spansWiden text s).fst ∧ (0 : Int) = (spansWiden text s).snd))))) :
    Con Try.prog f_ref_SpansWiden ref_SpansWiden_ct := fun x hx =>
  con_eq hC (L := []) (trivial) ref_SpansWiden_ok (ct := ref_SpansWiden_ct) (depth := 0) (by kernel_rfl) x (H (@id (List UInt8 × (Int × Int)) x).1 (@id (List UInt8 × (Int × Int)) x).2 (mpr' hx (by kernel_rfl))) (by kernel_rfl)

theorem law_SpansWidens_vc (hC : Cons Try.prog [(f_spans_Widen, spans_Widen_ct), (f_ref_SpansWiden, ref_SpansWiden_ct)])
    (H : ∀ (text : List UInt8) (s : Int × Int), (text.length.le 140737488351232 ∧
  (IntKind.i64.min ≤ s.1 ∧ s.1 ≤ IntKind.i64.max) ∧ IntKind.i64.min ≤ s.2 ∧ s.2 ≤ IntKind.i64.max) →
  fitS text ∧
  fitS text ∧
    bo
        (((spansWiden text (s.fst, s.snd)).fst.fst = (spansWiden text (s.fst, s.snd)).fst.fst ∧
            (spansWiden text (s.fst, s.snd)).fst.snd = (spansWiden text (s.fst, s.snd)).fst.snd) ∧
          (spansWiden text (s.fst, s.snd)).snd = (spansWiden text (s.fst, s.snd)).snd) =
      true) :
    Con Try.prog f_law_SpansWidens law_SpansWidens_ct := fun x hx =>
  con_eq hC (L := []) (trivial) law_SpansWidens_ok (ct := law_SpansWidens_ct) (depth := 0) (by kernel_rfl) x (H (@id (List UInt8 × (Int × Int)) x).1 (@id (List UInt8 × (Int × Int)) x).2 (mpr' hx (by kernel_rfl))) (by kernel_rfl)

end Go.Proofs.Ytcgggoaefceokaa
