/- The typed conditions of the functions, printed by a program of the claim's author; each gives the contract of its function. Conditions: none. -/
import Derived.Test.YtcgggoaefceokaaGPosFinds
import Derived.Test.YtcgggoaefceokaaVpA
import Derived.Test.YtcgggoaefceokaaVpB
import Derived.Test.YtcgggoaefceokaaVpC
import Derived.Test.YtcgggoaefceokaaVpD
import Derived.Test.YtcgggoaefceokaaVpE
import Derived.Test.YtcgggoaefceokaaVpG
import Derived.Test.YtcgggoaefceokaaBase
set_option linter.unusedVariables false
set_option linter.unusedSimpArgs false
set_option maxRecDepth 100000
namespace Go.Proofs.Ytcgggoaefceokaa
open Go.Vc Go.Fu

theorem pos_Find_vc (hC : Cons Try.prog [])
    (H : ∀ (text : List UInt8) (line : Int) (col : Int), (fitS text ∧ inI64 line ∧ inI64 col) →
  (line < 0 ∨ col < 0 → 0 = (posFind text line col).fst ∧ 2 = (posFind text line col).snd) ∧
  (¬(line < 0 ∨ col < 0) →
    ∃ (I : Int → Int → Prop),
      ∃ (m : Int → Int → Nat),
        I line 0 ∧
          ∀ (line_1 at_ : Int),
            I line_1 at_ →
              (0 < line_1 →
                  0 ≤ at_ ∧
                    at_ ≤ (↑text.length : Int) ∧
                      (↑text.length : Int) ≤ (↑text.length : Int) ∧
                        (Lib.indexByte (List.drop at_.toNat (List.take (↑text.length : Int).toNat text))
                                (Int.toNat 10).toUInt8 <
                              0 →
                            0 = (posFind text line col).fst ∧ 2 = (posFind text line col).snd) ∧
                          (¬Lib.indexByte (List.drop at_.toNat (List.take (↑text.length : Int).toNat text))
                                  (Int.toNat 10).toUInt8 <
                                0 →
                            inI64
                                (Lib.indexByte (List.drop at_.toNat (List.take (↑text.length : Int).toNat text))
                                    (Int.toNat 10).toUInt8 +
                                  1) ∧
                              inI64
                                  (at_ +
                                    (Lib.indexByte (List.drop at_.toNat (List.take (↑text.length : Int).toNat text))
                                        (Int.toNat 10).toUInt8 +
                                      1)) ∧
                                inI64 (line_1 - 1) ∧
                                  I (line_1 - 1)
                                      (at_ +
                                        (Lib.indexByte (List.drop at_.toNat (List.take (↑text.length : Int).toNat text))
                                            (Int.toNat 10).toUInt8 +
                                          1)) ∧
                                    m (line_1 - 1)
                                        (at_ +
                                          (Lib.indexByte
                                              (List.drop at_.toNat (List.take (↑text.length : Int).toNat text))
                                              (Int.toNat 10).toUInt8 +
                                            1)) <
                                      m line_1 at_)) ∧
                (¬0 < line_1 →
                  0 ≤ at_ ∧
                    at_ ≤ (↑text.length : Int) ∧
                      (↑text.length : Int) ≤ (↑text.length : Int) ∧
                        (Lib.indexByte (List.drop at_.toNat (List.take (↑text.length : Int).toNat text))
                                (Int.toNat 10).toUInt8 <
                              0 →
                            inI64 ((↑text.length : Int) - at_)) ∧
                          (iteP
                                  (Lib.indexByte (List.drop at_.toNat (List.take (↑text.length : Int).toNat text))
                                      (Int.toNat 10).toUInt8 <
                                    0)
                                  ((↑text.length : Int) - at_)
                                  (Lib.indexByte (List.drop at_.toNat (List.take (↑text.length : Int).toNat text))
                                    (Int.toNat 10).toUInt8) <
                                col →
                              0 = (posFind text line col).fst ∧ 7 = (posFind text line col).snd) ∧
                            (¬iteP
                                    (Lib.indexByte (List.drop at_.toNat (List.take (↑text.length : Int).toNat text))
                                        (Int.toNat 10).toUInt8 <
                                      0)
                                    ((↑text.length : Int) - at_)
                                    (Lib.indexByte (List.drop at_.toNat (List.take (↑text.length : Int).toNat text))
                                      (Int.toNat 10).toUInt8) <
                                  col →
                              inI64 (at_ + col) ∧
                                at_ + col = (posFind text line col).fst ∧ 0 = (posFind text line col).snd)))) :
    Con Try.prog f_pos_Find pos_Find_ct := fun x hx =>
  con_eq hC (L := [(f_strings_IndexByte, strings_IndexByte_fi), (f_internal_stringslite_IndexByte, internal_stringslite_IndexByte_fi)]) (⟨strings_IndexByte_ok, internal_stringslite_IndexByte_ok, trivial⟩) pos_Find_ok (ct := pos_Find_ct) (depth := 4) (by kernel_rfl) x (H (@id (List UInt8 × Int × Int) x).1 (@id (List UInt8 × Int × Int) x).2.1 (@id (List UInt8 × Int × Int) x).2.2 (mpr' hx (by kernel_rfl))) (by kernel_rfl)

theorem ref_PosOf_vc (hC : Cons Try.prog [])
    (H : ∀ (text : List UInt8), (fitS text) →
  ∃ (I : Int → Int → Int → Int → Prop),
  ∃ (m : Int → Int → Int → Int → Nat),
    ((0 : Int) = (0 : Int) ∧
        (0 : Int) = (0 : Int) ∧ (0 : Int) = (0 : Int) ∧ I (0 : Int) (0 : Int) (0 : Int) (0 : Int)) ∧
      ∀ (i p p_1 p_2 : Int),
        I i p p_1 p_2 →
          (i < (↑text.length : Int) →
              inI64 (p + (1 : Int)) ∧
                inI64 (p_2 + (1 : Int)) ∧
                  (0 : Int) ≤ i ∧
                    i < (↑text.length : Int) ∧
                      ((↑(gt text i).toNat : Int) = (10 : Int) →
                          inI64 (p_1 + (1 : Int)) ∧
                            inI64 (i + (1 : Int)) ∧
                              (0 : Int) = (0 : Int) ∧
                                (0 : Int) = (0 : Int) ∧
                                  (0 : Int) = (0 : Int) ∧
                                    I (i + (1 : Int)) (p + (1 : Int)) (p_1 + (1 : Int)) (0 : Int) ∧
                                      m (i + (1 : Int)) (p + (1 : Int)) (p_1 + (1 : Int)) (0 : Int) < m i p p_1 p_2) ∧
                        (¬(↑(gt text i).toNat : Int) = (10 : Int) →
                          inI64 (i + (1 : Int)) ∧
                            (0 : Int) = (0 : Int) ∧
                              (0 : Int) = (0 : Int) ∧
                                (0 : Int) = (0 : Int) ∧
                                  I (i + (1 : Int)) (p + (1 : Int)) p_1 (p_2 + (1 : Int)) ∧
                                    m (i + (1 : Int)) (p + (1 : Int)) p_1 (p_2 + (1 : Int)) < m i p p_1 p_2)) ∧
            (¬i < (↑text.length : Int) → (p, p_1, p_2) = posOf text)) :
    Con Try.prog f_ref_PosOf ref_PosOf_ct := fun x hx =>
  con_eq hC (L := []) (trivial) ref_PosOf_ok (ct := ref_PosOf_ct) (depth := 0) (by kernel_rfl) x (H (@id (List UInt8) x) (mpr' hx (by kernel_rfl))) (by kernel_rfl)

theorem ref_PosFind_vc (hC : Cons Try.prog [(f_ref_PosOf, ref_PosOf_ct)])
    (H : ∀ (text : List UInt8) (line : Int) (col : Int), (fitS text ∧ inI64 line ∧ inI64 col) →
  (¬(line < (0 : Int) ∨ col < (0 : Int)) → fitS text) ∧
  ((line < (0 : Int) ∨ col < (0 : Int)) ∨ (posOf text).snd.fst < line →
      (0 : Int) = (posFind text line col).fst ∧ (2 : Int) = (posFind text line col).snd) ∧
    (¬((line < (0 : Int) ∨ col < (0 : Int)) ∨ (posOf text).snd.fst < line) →
      ∃ (I : Int → Prop),
        ∃ (m : Int → Nat),
          I (0 : Int) ∧
            ∀ (at_ : Int),
              I at_ →
                (at_ ≤ (↑text.length : Int) →
                    (0 : Int) ≤ (0 : Int) ∧
                      (0 : Int) ≤ at_ ∧
                        at_ ≤ (↑text.length : Int) ∧
                          fitS (List.drop (Int.toNat (0 : Int)) (List.take at_.toNat text)) ∧
                            ((posOf (List.drop (Int.toNat (0 : Int)) (List.take at_.toNat text))).snd.fst = line ∧
                                  (posOf (List.drop (Int.toNat (0 : Int)) (List.take at_.toNat text))).snd.snd = col →
                                at_ = (posFind text line col).fst ∧ (0 : Int) = (posFind text line col).snd) ∧
                              (¬((posOf (List.drop (Int.toNat (0 : Int)) (List.take at_.toNat text))).snd.fst = line ∧
                                    (posOf (List.drop (Int.toNat (0 : Int)) (List.take at_.toNat text))).snd.snd =
                                      col) →
                                inI64 (at_ + (1 : Int)) ∧ I (at_ + (1 : Int)) ∧ m (at_ + (1 : Int)) < m at_)) ∧
                  (¬at_ ≤ (↑text.length : Int) →
                    (0 : Int) = (posFind text line col).fst ∧ (7 : Int) = (posFind text line col).snd))) :
    Con Try.prog f_ref_PosFind ref_PosFind_ct := fun x hx =>
  con_eq hC (L := []) (trivial) ref_PosFind_ok (ct := ref_PosFind_ct) (depth := 0) (by kernel_rfl) x (H (@id (List UInt8 × Int × Int) x).1 (@id (List UInt8 × Int × Int) x).2.1 (@id (List UInt8 × Int × Int) x).2.2 (mpr' hx (by kernel_rfl))) (by kernel_rfl)

theorem law_PosFinds_vc (hC : Cons Try.prog [(f_pos_Find, pos_Find_ct), (f_ref_PosFind, ref_PosFind_ct)])
    (H : ∀ (text : List UInt8) (line : Int) (col : Int), (text.length.le 140737488351232 ∧
  (IntKind.i64.min ≤ line ∧ line ≤ IntKind.i64.max) ∧ IntKind.i64.min ≤ col ∧ col ≤ IntKind.i64.max) →
  (fitS text ∧ inI64 line ∧ inI64 col) ∧
  (fitS text ∧ inI64 line ∧ inI64 col) ∧
    bo
        ((posFind text line col).fst = (posFind text line col).fst ∧
          (posFind text line col).snd = (posFind text line col).snd) =
      true) :
    Con Try.prog f_law_PosFinds law_PosFinds_ct := fun x hx =>
  con_eq hC (L := []) (trivial) law_PosFinds_ok (ct := law_PosFinds_ct) (depth := 0) (by kernel_rfl) x (H (@id (List UInt8 × Int × Int) x).1 (@id (List UInt8 × Int × Int) x).2.1 (@id (List UInt8 × Int × Int) x).2.2 (mpr' hx (by kernel_rfl))) (by kernel_rfl)

end Go.Proofs.Ytcgggoaefceokaa
