/- The typed conditions of the functions, printed by a program of the claim's author; each gives the contract of its function. Conditions: none. -/
import Derived.Test.YtmknkkafindicaaGPosAts
import Derived.Test.YtmknkkafindicaaVpA
import Derived.Test.YtmknkkafindicaaVpB
import Derived.Test.YtmknkkafindicaaVpC
import Derived.Test.YtmknkkafindicaaVpD
import Derived.Test.YtmknkkafindicaaVpE
import Derived.Test.YtmknkkafindicaaVpG
import Derived.Test.YtmknkkafindicaaVpO
import Derived.Test.YtmknkkafindicaaBase
set_option linter.unusedVariables false
set_option linter.unusedSimpArgs false
set_option maxRecDepth 100000
namespace Go.Proofs.Ytmknkkafindicaa
open Go.Vc Go.Fu

theorem pos_Of_vc (hC : Cons Try.prog [])
    (H : ∀ (text : List UInt8), (fitS text) →
  ((↑(1 : Nat) : Int) = (0 : Int) → False) ∧
  (¬(↑(1 : Nat) : Int) = (0 : Int) →
    ((↑(1 : Nat) : Int) = (1 : Int) →
        (0 : Int) ≤ (0 : Int) ∧
          (0 : Int) < (↑(1 : Nat) : Int) ∧
            inI64 ((↑text.length : Int) - (1 : Int)) ∧
              ∃ (I : Int → Prop),
                ∃ (m : Int → Nat),
                  ((0 : Int) = (0 : Int) ∧
                      (0 : Int) = (0 : Int) ∧ (0 : Int) = (0 : Int) ∧ I ((↑text.length : Int) - (1 : Int))) ∧
                    ∀ (i : Int),
                      I i →
                        ((0 : Int) ≤ i →
                            (0 : Int) ≤ i ∧
                              i < (↑text.length : Int) ∧
                                ((↑(gt text i).toNat : Int) = (10 : Int) →
                                    inI64 ((↑text.length : Int) - i) ∧
                                      inI64 ((↑text.length : Int) - i - (1 : Int)) ∧
                                        ((↑text.length : Int),
                                            (↑(Lib.countByte text (gt [(10 : UInt8)] (0 : Int))) : Int),
                                            (↑text.length : Int) - i - (1 : Int)) =
                                          posOf text) ∧
                                  (¬(↑(gt text i).toNat : Int) = (10 : Int) →
                                    inI64 (i - (1 : Int)) ∧
                                      (0 : Int) = (0 : Int) ∧
                                        (0 : Int) = (0 : Int) ∧
                                          (0 : Int) = (0 : Int) ∧ I (i - (1 : Int)) ∧ m (i - (1 : Int)) < m i)) ∧
                          (¬(0 : Int) ≤ i →
                            inI64 ((↑text.length : Int) - (-1 : Int)) ∧
                              inI64 ((↑text.length : Int) - (-1 : Int) - (1 : Int)) ∧
                                ((↑text.length : Int), (↑(Lib.countByte text (gt [(10 : UInt8)] (0 : Int))) : Int),
                                    (↑text.length : Int) - (-1 : Int) - (1 : Int)) =
                                  posOf text)) ∧
      (¬(↑(1 : Nat) : Int) = (1 : Int) →
        ∃ (I : List UInt8 → Int → Prop),
          ∃ (m : List UInt8 → Int → Nat),
            ((0 : Int) = (0 : Int) ∧ (0 : Int) = (0 : Int) ∧ (0 : Int) = (0 : Int) ∧ I text (0 : Int)) ∧
              ∀ (s : List UInt8) (n : Int), I s n → False))) :
    Con Try.prog f_pos_Of pos_Of_ct := ⟨pos_Of_ok.able, fun x hx =>
  con_eq hC (L := [(f_strings_Count, strings_Count_fi), (f_strings_LastIndexByte, strings_LastIndexByte_fi), (f_internal_bytealg_LastIndexByteString, internal_bytealg_LastIndexByteString_fi)]) (⟨strings_Count_ok, strings_LastIndexByte_ok, internal_bytealg_LastIndexByteString_ok, trivial⟩) pos_Of_ok (ct := pos_Of_ct) (depth := 4) (by kernel_rfl) x (H (@id (List UInt8) x) (mpr' hx (by kernel_rfl))) (by kernel_rfl)⟩

theorem pos_At_vc (hC : Cons Try.prog [(f_pos_Of, pos_Of_ct)])
    (H : ∀ (text : List UInt8) (at_ : Int), (fitS text) →
  (at_ < (0 : Int) ∨ (↑text.length : Int) < at_ →
    ((0 : Int), (0 : Int), (0 : Int)) = (posAt text at_).fst ∧ (2 : Int) = (posAt text at_).snd) ∧
  (¬(at_ < (0 : Int) ∨ (↑text.length : Int) < at_) →
    (0 : Int) ≤ (0 : Int) ∧
      (0 : Int) ≤ at_ ∧
        at_ ≤ (↑text.length : Int) ∧
          fitS (List.drop (Int.toNat (0 : Int)) (List.take at_.toNat text)) ∧
            ((posOf (List.drop (Int.toNat (0 : Int)) (List.take at_.toNat text))).fst,
                  (posOf (List.drop (Int.toNat (0 : Int)) (List.take at_.toNat text))).snd.fst,
                  (posOf (List.drop (Int.toNat (0 : Int)) (List.take at_.toNat text))).snd.snd) =
                (posAt text at_).fst ∧
              (0 : Int) = (posAt text at_).snd)) :
    Con Try.prog f_pos_At pos_At_ct := ⟨pos_At_ok.able, fun x hx =>
  con_eq hC (L := []) (trivial) pos_At_ok (ct := pos_At_ct) (depth := 0) (by kernel_rfl) x (H (@id (List UInt8 × Int) x).1 (@id (List UInt8 × Int) x).2 (mpr' hx (by kernel_rfl))) (by kernel_rfl)⟩

theorem ref_PosOf_vc (hC : Cons Try.prog [])
    (H : ∀ (text : List UInt8), (fitS text) →
  ∃ (I : Int → Int → Int → Int → Prop),
  ∃ (m : Int → Int → Int → Int → Nat),
    ((0 : Int) = (0 : Int) ∧
        (0 : Int) = (0 : Int) ∧ (0 : Int) = (0 : Int) ∧ I (0 : Int) (0 : Int) (0 : Int) (0 : Int)) ∧
      ∀ (i p p_1 p_2 : Int),
        I i p p_1 p_2 →
          (i < (↑text.length : Int) →
              inI64 (p + (1 : Int)) ∧
                inI64 (p_2 + (1 : Int)) ∧
                  (0 : Int) ≤ i ∧
                    i < (↑text.length : Int) ∧
                      ((↑(gt text i).toNat : Int) = (10 : Int) →
                          inI64 (p_1 + (1 : Int)) ∧
                            inI64 (i + (1 : Int)) ∧
                              (0 : Int) = (0 : Int) ∧
                                (0 : Int) = (0 : Int) ∧
                                  (0 : Int) = (0 : Int) ∧
                                    I (i + (1 : Int)) (p + (1 : Int)) (p_1 + (1 : Int)) (0 : Int) ∧
                                      m (i + (1 : Int)) (p + (1 : Int)) (p_1 + (1 : Int)) (0 : Int) < m i p p_1 p_2) ∧
                        (¬(↑(gt text i).toNat : Int) = (10 : Int) →
                          inI64 (i + (1 : Int)) ∧
                            (0 : Int) = (0 : Int) ∧
                              (0 : Int) = (0 : Int) ∧
                                (0 : Int) = (0 : Int) ∧
                                  I (i + (1 : Int)) (p + (1 : Int)) p_1 (p_2 + (1 : Int)) ∧
                                    m (i + (1 : Int)) (p + (1 : Int)) p_1 (p_2 + (1 : Int)) < m i p p_1 p_2)) ∧
            (¬i < (↑text.length : Int) → (p, p_1, p_2) = posOf text)) :
    Con Try.prog f_ref_PosOf ref_PosOf_ct := ⟨ref_PosOf_ok.able, fun x hx =>
  con_eq hC (L := []) (trivial) ref_PosOf_ok (ct := ref_PosOf_ct) (depth := 0) (by kernel_rfl) x (H (@id (List UInt8) x) (mpr' hx (by kernel_rfl))) (by kernel_rfl)⟩

theorem ref_PosAt_vc (hC : Cons Try.prog [(f_ref_PosOf, ref_PosOf_ct)])
    (H : ∀ (text : List UInt8) (at_ : Int), (fitS text) →
  (at_ < (0 : Int) ∨ (↑text.length : Int) < at_ →
    ((0 : Int), (0 : Int), (0 : Int)) = (posAt text at_).fst ∧ (2 : Int) = (posAt text at_).snd) ∧
  (¬(at_ < (0 : Int) ∨ (↑text.length : Int) < at_) →
    (0 : Int) ≤ (0 : Int) ∧
      (0 : Int) ≤ at_ ∧
        at_ ≤ (↑text.length : Int) ∧
          fitS (List.drop (Int.toNat (0 : Int)) (List.take at_.toNat text)) ∧
            ((posOf (List.drop (Int.toNat (0 : Int)) (List.take at_.toNat text))).fst,
                  (posOf (List.drop (Int.toNat (0 : Int)) (List.take at_.toNat text))).snd.fst,
                  (posOf (List.drop (Int.toNat (0 : Int)) (List.take at_.toNat text))).snd.snd) =
                (posAt text at_).fst ∧
              (0 : Int) = (posAt text at_).snd)) :
    Con Try.prog f_ref_PosAt ref_PosAt_ct := ⟨ref_PosAt_ok.able, fun x hx =>
  con_eq hC (L := []) (trivial) ref_PosAt_ok (ct := ref_PosAt_ct) (depth := 0) (by kernel_rfl) x (H (@id (List UInt8 × Int) x).1 (@id (List UInt8 × Int) x).2 (mpr' hx (by kernel_rfl))) (by kernel_rfl)⟩

theorem law_PosAts_vc (hC : Cons Try.prog [(f_pos_At, pos_At_ct), (f_ref_PosAt, ref_PosAt_ct)])
    (H : ∀ (text : List UInt8) (at_ : Int), (text.length.le 140737488351232 ∧ IntKind.i64.min ≤ at_ ∧ at_ ≤ IntKind.i64.max) →
  fitS text ∧
  fitS text ∧
    bo
        (((posAt text at_).fst.fst = (posAt text at_).fst.fst ∧
            (posAt text at_).fst.snd.fst = (posAt text at_).fst.snd.fst ∧
              (posAt text at_).fst.snd.snd = (posAt text at_).fst.snd.snd) ∧
          (posAt text at_).snd = (posAt text at_).snd) =
      true) :
    Con Try.prog f_law_PosAts law_PosAts_ct := ⟨law_PosAts_ok.able, fun x hx =>
  con_eq hC (L := []) (trivial) law_PosAts_ok (ct := law_PosAts_ct) (depth := 0) (by kernel_rfl) x (H (@id (List UInt8 × Int) x).1 (@id (List UInt8 × Int) x).2 (mpr' hx (by kernel_rfl))) (by kernel_rfl)⟩

end Go.Proofs.Ytmknkkafindicaa
