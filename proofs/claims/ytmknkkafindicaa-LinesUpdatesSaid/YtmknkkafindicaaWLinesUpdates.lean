/- The typed conditions of the functions, printed by a program of the claim's author; each gives the contract of its function. Conditions: none. -/
import Derived.Test.YtmknkkafindicaaGLinesUpdates
import Derived.Test.YtmknkkafindicaaVpA
import Derived.Test.YtmknkkafindicaaVpB
import Derived.Test.YtmknkkafindicaaVpC
import Derived.Test.YtmknkkafindicaaVpD
import Derived.Test.YtmknkkafindicaaVpE
import Derived.Test.YtmknkkafindicaaVpG
import Derived.Test.YtmknkkafindicaaVpI
import Derived.Test.YtmknkkafindicaaVpK
import Derived.Test.YtmknkkafindicaaVpQ
import Derived.Test.YtmknkkafindicaaVpJ
import Derived.Test.YtmknkkafindicaaBase
set_option linter.unusedVariables false
set_option linter.unusedSimpArgs false
set_option maxRecDepth 100000
namespace Go.Proofs.Ytmknkkafindicaa
open Go.Vc Go.Fu

theorem lines_may_vc (hC : Cons Try.prog [])
    (H : ∀ (l : List Int), (fitL l) →
  ∃ (I : Int → Prop),
  ∃ (m : Int → Nat),
    I (0 : Int) ∧
      ∀ (x : Int),
        I x →
          (x < (↑l.length : Int) →
              (0 : Int) ≤ x ∧
                x < (↑l.length : Int) ∧
                  ((0 : Int) < x → inI64 (x - (1 : Int))) ∧
                    ((0 : Int) < x → (0 : Int) ≤ x - (1 : Int)) ∧
                      ((0 : Int) < x → x - (1 : Int) < (↑l.length : Int)) ∧
                        ((0 : Int) < x ∧ gt l x ≤ gt l (x - (1 : Int)) → false = bo (startsOk l)) ∧
                          (¬((0 : Int) < x ∧ gt l x ≤ gt l (x - (1 : Int))) →
                            inI64 (x + (1 : Int)) ∧ I (x + (1 : Int)) ∧ m (x + (1 : Int)) < m x)) ∧
            (¬x < (↑l.length : Int) →
              ((0 : Int) < (↑l.length : Int) → (0 : Int) ≤ (0 : Int)) ∧
                ((0 : Int) < (↑l.length : Int) → (0 : Int) < (↑l.length : Int)) ∧
                  ((0 : Int) < (↑l.length : Int) ∧ gt l (0 : Int) = (0 : Int) → inI64 ((↑l.length : Int) - (1 : Int))) ∧
                    ((0 : Int) < (↑l.length : Int) ∧ gt l (0 : Int) = (0 : Int) →
                        (0 : Int) ≤ (↑l.length : Int) - (1 : Int)) ∧
                      ((0 : Int) < (↑l.length : Int) ∧ gt l (0 : Int) = (0 : Int) →
                          (↑l.length : Int) - (1 : Int) < (↑l.length : Int)) ∧
                        bo
                            (((0 : Int) < (↑l.length : Int) ∧ gt l (0 : Int) = (0 : Int)) ∧
                              gt l ((↑l.length : Int) - (1 : Int)) ≤ (600 : Int)) =
                          bo (startsOk l))) :
    Con Try.prog f_lines_may lines_may_ct := ⟨lines_may_ok.able, fun x hx =>
  con_eq hC (L := []) (trivial) lines_may_ok (ct := lines_may_ct) (depth := 0) (by kernel_rfl) x (H (@id (List Int) x) (mpr' hx (by kernel_rfl))) (by kernel_rfl)⟩

theorem edit_Check_vc (hC : Cons Try.prog [])
    (H : ∀ (size : Int) (e : Int × Int × List UInt8), (inI64 size ∧ editFits e) →
  (¬((((size < 0 ∨ 600 < size) ∨ e.fst < 0) ∨ size < e.fst) ∨ e.snd.fst < 0) → inI64 (size - e.fst)) ∧
  (((((size < 0 ∨ 600 < size) ∨ e.fst < 0) ∨ size < e.fst) ∨ e.snd.fst < 0) ∨ size - e.fst < e.snd.fst →
      2 = editFault size e) ∧
    (¬(((((size < 0 ∨ 600 < size) ∨ e.fst < 0) ∨ size < e.fst) ∨ e.snd.fst < 0) ∨ size - e.fst < e.snd.fst) →
      inI64 (size - e.snd.fst) ∧
        inI64 (size - e.snd.fst + (↑e.snd.snd.length : Int)) ∧
          (600 < size - e.snd.fst + (↑e.snd.snd.length : Int) → 1 = editFault size e) ∧
            (¬600 < size - e.snd.fst + (↑e.snd.snd.length : Int) → 0 = editFault size e))) :
    Con Try.prog f_edit_Check edit_Check_ct := ⟨edit_Check_ok.able, fun x hx =>
  con_eq hC (L := []) (trivial) edit_Check_ok (ct := edit_Check_ct) (depth := 0) (by kernel_rfl) x (H (@id (Int × (Int × Int × List UInt8)) x).1 (@id (Int × (Int × Int × List UInt8)) x).2 (mpr' hx (by kernel_rfl))) (by kernel_rfl)⟩

theorem sort_SearchInts_vc (hC : Cons Try.prog [])
    (H : ∀ (a : List Int) (x : Int), (fitL a ∧ riseOk a) →
  ∃ (I : Int → Int → List Int → Int → Prop),
  ∃ (m : Int → Int → List Int → Int → Nat),
    I (0 : Int) (↑a.length : Int) a x ∧
      ∀ (i j : Int) (f : List Int) (f_1 : Int),
        I i j f f_1 →
          (i < j →
              inI64 (i + j) ∧
                (0 : Int) ≤ (1 : Int) ∧
                  inI64 ((IntKind.u64.wrap (i + j)).fdiv ((2 : Int) ^ min (Int.toNat (1 : Int)) IntKind.u64.bits)) ∧
                    (0 : Int) ≤
                        (IntKind.u64.wrap (i + j)).fdiv ((2 : Int) ^ min (Int.toNat (1 : Int)) IntKind.u64.bits) ∧
                      (IntKind.u64.wrap (i + j)).fdiv ((2 : Int) ^ min (Int.toNat (1 : Int)) IntKind.u64.bits) <
                          (↑f.length : Int) ∧
                        (¬f_1 ≤
                                gt f
                                  ((IntKind.u64.wrap (i + j)).fdiv
                                    ((2 : Int) ^ min (Int.toNat (1 : Int)) IntKind.u64.bits)) →
                            inI64
                                ((IntKind.u64.wrap (i + j)).fdiv
                                    ((2 : Int) ^ min (Int.toNat (1 : Int)) IntKind.u64.bits) +
                                  (1 : Int)) ∧
                              I
                                  ((IntKind.u64.wrap (i + j)).fdiv
                                      ((2 : Int) ^ min (Int.toNat (1 : Int)) IntKind.u64.bits) +
                                    (1 : Int))
                                  j f f_1 ∧
                                m
                                    ((IntKind.u64.wrap (i + j)).fdiv
                                        ((2 : Int) ^ min (Int.toNat (1 : Int)) IntKind.u64.bits) +
                                      (1 : Int))
                                    j f f_1 <
                                  m i j f f_1) ∧
                          (¬¬f_1 ≤
                                  gt f
                                    ((IntKind.u64.wrap (i + j)).fdiv
                                      ((2 : Int) ^ min (Int.toNat (1 : Int)) IntKind.u64.bits)) →
                            I i
                                ((IntKind.u64.wrap (i + j)).fdiv
                                  ((2 : Int) ^ min (Int.toNat (1 : Int)) IntKind.u64.bits))
                                f f_1 ∧
                              m i
                                  ((IntKind.u64.wrap (i + j)).fdiv
                                    ((2 : Int) ^ min (Int.toNat (1 : Int)) IntKind.u64.bits))
                                  f f_1 <
                                m i j f f_1)) ∧
            (¬i < j → i = searchAt a x)) :
    Con Try.prog f_sort_SearchInts sort_SearchInts_ct := ⟨sort_SearchInts_ok.able, fun x hx =>
  con_eq hC (L := [(f_sort_Search, sort_Search_fi), (f_sort_SearchInts_1, sort_SearchInts_1_fi)]) (⟨sort_Search_ok, sort_SearchInts_1_ok, trivial⟩) sort_SearchInts_ok (ct := sort_SearchInts_ct) (depth := 4) (by kernel_rfl) x (H (@id (List Int × Int) x).1 (@id (List Int × Int) x).2 (mpr' hx (by kernel_rfl))) (by kernel_rfl)⟩

theorem lines_Updated_vc (hC : Cons Try.prog [(f_sort_SearchInts, sort_SearchInts_ct)])
    (H : ∀ (l : List Int) (e : Int × Int × List UInt8), (startsOk l ∧ fitL l ∧ updPre e) →
  inI64 (e.fst + (1 : Int)) ∧
  (fitL l ∧ riseOk l) ∧
    inI64 (e.fst + e.snd.fst) ∧
      inI64 (e.fst + e.snd.fst + (1 : Int)) ∧
        (fitL l ∧ riseOk l) ∧
          (0 : Int) ≤ (0 : Int) ∧
            (0 : Int) ≤ searchAt l (e.fst + (1 : Int)) ∧
              searchAt l (e.fst + (1 : Int)) ≤ (↑l.length : Int) ∧
                (List.drop (Int.toNat (0 : Int)) (List.take (searchAt l (e.fst + (1 : Int))).toNat l)).length *
                      (8 : Nat) ≤
                    (140737488355328 : Nat) ∧
                  ∃ (I : Int → List Int → Prop),
                    ∃ (m : Int → List Int → Nat),
                      (e.fst = e.fst ∧
                          e.snd.fst = e.snd.fst ∧
                            e.snd.snd = e.snd.snd ∧
                              I (0 : Int)
                                (List.drop (Int.toNat (0 : Int))
                                  (List.take (searchAt l (e.fst + (1 : Int))).toNat l))) ∧
                        ∀ (x : Int) (out : List Int),
                          I x out →
                            (x < (↑e.snd.snd.length : Int) →
                                (0 : Int) ≤ x ∧
                                  x < (↑e.snd.snd.length : Int) ∧
                                    ((↑(gt e.snd.snd x).toNat : Int) = (10 : Int) →
                                        inI64 (e.fst + x) ∧
                                          inI64 (e.fst + x + (1 : Int)) ∧
                                            (out.length + (1 : Nat)) * (8 : Nat) ≤ (140737488355328 : Nat) ∧
                                              inI64 (x + (1 : Int)) ∧
                                                e.fst = e.fst ∧
                                                  e.snd.fst = e.snd.fst ∧
                                                    e.snd.snd = e.snd.snd ∧
                                                      I (x + (1 : Int)) (out ++ [e.fst + x + (1 : Int)]) ∧
                                                        m (x + (1 : Int)) (out ++ [e.fst + x + (1 : Int)]) < m x out) ∧
                                      (¬(↑(gt e.snd.snd x).toNat : Int) = (10 : Int) →
                                        inI64 (x + (1 : Int)) ∧
                                          e.fst = e.fst ∧
                                            e.snd.fst = e.snd.fst ∧
                                              e.snd.snd = e.snd.snd ∧
                                                I (x + (1 : Int)) out ∧ m (x + (1 : Int)) out < m x out)) ∧
                              (¬x < (↑e.snd.snd.length : Int) →
                                (0 : Int) ≤ searchAt l (e.fst + e.snd.fst + (1 : Int)) ∧
                                  searchAt l (e.fst + e.snd.fst + (1 : Int)) ≤ (↑l.length : Int) ∧
                                    (↑l.length : Int) ≤ (↑l.length : Int) ∧
                                      ∃ (I : Int → List Int → Prop),
                                        ∃ (m : Int → List Int → Nat),
                                          (e.fst = e.fst ∧
                                              e.snd.fst = e.snd.fst ∧ e.snd.snd = e.snd.snd ∧ I (0 : Int) out) ∧
                                            ∀ (x : Int) (out : List Int),
                                              I x out →
                                                (x <
                                                      (↑(List.drop (searchAt l (e.fst + e.snd.fst + (1 : Int))).toNat
                                                              (List.take (↑l.length : Int).toNat l)).length :
                                                        Int) →
                                                    (0 : Int) ≤ x ∧
                                                      x <
                                                          (↑(List.drop
                                                                  (searchAt l (e.fst + e.snd.fst + (1 : Int))).toNat
                                                                  (List.take (↑l.length : Int).toNat l)).length :
                                                            Int) ∧
                                                        inI64
                                                            (gt
                                                                (List.drop
                                                                  (searchAt l (e.fst + e.snd.fst + (1 : Int))).toNat
                                                                  (List.take (↑l.length : Int).toNat l))
                                                                x +
                                                              (↑e.snd.snd.length : Int)) ∧
                                                          inI64
                                                              (gt
                                                                    (List.drop
                                                                      (searchAt l (e.fst + e.snd.fst + (1 : Int))).toNat
                                                                      (List.take (↑l.length : Int).toNat l))
                                                                    x +
                                                                  (↑e.snd.snd.length : Int) -
                                                                e.snd.fst) ∧
                                                            (out.length + (1 : Nat)) * (8 : Nat) ≤
                                                                (140737488355328 : Nat) ∧
                                                              inI64 (x + (1 : Int)) ∧
                                                                e.fst = e.fst ∧
                                                                  e.snd.fst = e.snd.fst ∧
                                                                    e.snd.snd = e.snd.snd ∧
                                                                      I (x + (1 : Int))
                                                                          (out ++
                                                                            [gt
                                                                                    (List.drop
                                                                                      (searchAt l
                                                                                          (e.fst + e.snd.fst +
                                                                                            (1 : Int))).toNat
                                                                                      (List.take (↑l.length : Int).toNat
                                                                                        l))
                                                                                    x +
                                                                                  (↑e.snd.snd.length : Int) -
                                                                                e.snd.fst]) ∧
                                                                        m (x + (1 : Int))
                                                                            (out ++
                                                                              [gt
                                                                                      (List.drop
                                                                                        (searchAt l
                                                                                            (e.fst + e.snd.fst +
                                                                                              (1 : Int))).toNat
                                                                                        (List.take
                                                                                          (↑l.length : Int).toNat l))
                                                                                      x +
                                                                                    (↑e.snd.snd.length : Int) -
                                                                                  e.snd.fst]) <
                                                                          m x out) ∧
                                                  (¬x <
                                                        (↑(List.drop (searchAt l (e.fst + e.snd.fst + (1 : Int))).toNat
                                                                (List.take (↑l.length : Int).toNat l)).length :
                                                          Int) →
                                                    out = linesUpdated l e))) :
    Con Try.prog f_lines_Updated lines_Updated_ct := ⟨lines_Updated_ok.able, fun x hx =>
  con_eq hC (L := []) (trivial) lines_Updated_ok (ct := lines_Updated_ct) (depth := 0) (by kernel_rfl) x (H (@id (List Int × (Int × Int × List UInt8)) x).1 (@id (List Int × (Int × Int × List UInt8)) x).2 (mpr' hx (by kernel_rfl))) (by kernel_rfl)⟩

theorem lines_Update_vc (hC : Cons Try.prog [(f_lines_may, lines_may_ct), (f_edit_Check, edit_Check_ct), (f_lines_Updated, lines_Updated_ct)])
    (H : ∀ (starts : List Int) (size : Int) (e : Int × Int × List UInt8), (fitL starts ∧ inI64 size ∧ editFits e) →
  fitL starts ∧
  (¬¬bo (startsOk starts) = true → inI64 ((↑starts.length : Int) - 1)) ∧
    (¬¬bo (startsOk starts) = true → 0 ≤ (↑starts.length : Int) - 1) ∧
      (¬¬bo (startsOk starts) = true → (↑starts.length : Int) - 1 < (↑starts.length : Int)) ∧
        (¬bo (startsOk starts) = true ∨ size < gt starts ((↑starts.length : Int) - 1) →
            [] = (linesUpdate starts size e).fst ∧ 4 = (linesUpdate starts size e).snd) ∧
          (¬(¬bo (startsOk starts) = true ∨ size < gt starts ((↑starts.length : Int) - 1)) →
            (inI64 size ∧ editFits (e.fst, e.snd.fst, e.snd.snd)) ∧
              (editFault size (e.fst, e.snd.fst, e.snd.snd) ≠ 0 →
                  [] = (linesUpdate starts size e).fst ∧
                    editFault size (e.fst, e.snd.fst, e.snd.snd) = (linesUpdate starts size e).snd) ∧
                (¬editFault size (e.fst, e.snd.fst, e.snd.snd) ≠ 0 →
                  (startsOk starts ∧ fitL starts ∧ updPre (e.fst, e.snd.fst, e.snd.snd)) ∧
                    linesUpdated starts (e.fst, e.snd.fst, e.snd.snd) = (linesUpdate starts size e).fst ∧
                      0 = (linesUpdate starts size e).snd))) :
    Con Try.prog f_lines_Update lines_Update_ct := ⟨lines_Update_ok.able, fun x hx =>
  con_eq hC (L := []) (trivial) lines_Update_ok (ct := lines_Update_ct) (depth := 0) (by kernel_rfl) x (H (@id (List Int × Int × (Int × Int × List UInt8)) x).1 (@id (List Int × Int × (Int × Int × List UInt8)) x).2.1 (@id (List Int × Int × (Int × Int × List UInt8)) x).2.2 (mpr' hx (by kernel_rfl))) (by kernel_rfl)⟩

theorem ref_startsMay_vc (hC : Cons Try.prog [])
    (H : ∀ (l : List Int), (fitL l) →
  (¬(↑l.length : Int) = (0 : Int) → (0 : Int) ≤ (0 : Int)) ∧
  (¬(↑l.length : Int) = (0 : Int) → (0 : Int) < (↑l.length : Int)) ∧
    ((↑l.length : Int) = (0 : Int) ∨ gt l (0 : Int) ≠ (0 : Int) → false = bo (startsOk l)) ∧
      (¬((↑l.length : Int) = (0 : Int) ∨ gt l (0 : Int) ≠ (0 : Int)) →
        ∃ (I : Int → Prop),
          ∃ (m : Int → Nat),
            I (1 : Int) ∧
              ∀ (i : Int),
                I i →
                  (i < (↑l.length : Int) →
                      (0 : Int) ≤ i ∧
                        i < (↑l.length : Int) ∧
                          inI64 (i - (1 : Int)) ∧
                            (0 : Int) ≤ i - (1 : Int) ∧
                              i - (1 : Int) < (↑l.length : Int) ∧
                                (¬gt l i ≤ gt l (i - (1 : Int)) → (0 : Int) ≤ i) ∧
                                  (¬gt l i ≤ gt l (i - (1 : Int)) → i < (↑l.length : Int)) ∧
                                    (gt l i ≤ gt l (i - (1 : Int)) ∨ (600 : Int) < gt l i → false = bo (startsOk l)) ∧
                                      (¬(gt l i ≤ gt l (i - (1 : Int)) ∨ (600 : Int) < gt l i) →
                                        inI64 (i + (1 : Int)) ∧ I (i + (1 : Int)) ∧ m (i + (1 : Int)) < m i)) ∧
                    (¬i < (↑l.length : Int) → true = bo (startsOk l)))) :
    Con Try.prog f_ref_startsMay ref_startsMay_ct := ⟨ref_startsMay_ok.able, fun x hx =>
  con_eq hC (L := []) (trivial) ref_startsMay_ok (ct := ref_startsMay_ct) (depth := 0) (by kernel_rfl) x (H (@id (List Int) x) (mpr' hx (by kernel_rfl))) (by kernel_rfl)⟩

theorem ref_EditFault_vc (hC : Cons Try.prog [])
    (H : ∀ (size : Int) (e : Int × Int × List UInt8), (inI64 size ∧ editFits e) →
  (¬(((((size < 0 ∨ 600 < size) ∨ e.fst < 0) ∨ e.snd.fst < 0) ∨ size < e.fst) ∨ size < e.snd.fst) →
    inI64 (e.fst + e.snd.fst)) ∧
  ((((((size < 0 ∨ 600 < size) ∨ e.fst < 0) ∨ e.snd.fst < 0) ∨ size < e.fst) ∨ size < e.snd.fst) ∨
        size < e.fst + e.snd.fst →
      2 = editFault size e) ∧
    (¬((((((size < 0 ∨ 600 < size) ∨ e.fst < 0) ∨ e.snd.fst < 0) ∨ size < e.fst) ∨ size < e.snd.fst) ∨
          size < e.fst + e.snd.fst) →
      inI64 (size + (↑e.snd.snd.length : Int)) ∧
        inI64 (size + (↑e.snd.snd.length : Int) - e.snd.fst) ∧
          (600 < size + (↑e.snd.snd.length : Int) - e.snd.fst → 1 = editFault size e) ∧
            (¬600 < size + (↑e.snd.snd.length : Int) - e.snd.fst → 0 = editFault size e))) :
    Con Try.prog f_ref_EditFault ref_EditFault_ct := ⟨ref_EditFault_ok.able, fun x hx =>
  con_eq hC (L := []) (trivial) ref_EditFault_ok (ct := ref_EditFault_ct) (depth := 0) (by kernel_rfl) x (H (@id (Int × (Int × Int × List UInt8)) x).1 (@id (Int × (Int × Int × List UInt8)) x).2 (mpr' hx (by kernel_rfl))) (by kernel_rfl)⟩

theorem ref_cutLines_vc (hC : Cons Try.prog [])
    (H : ∀ (text : List UInt8), (text.length ≤ 1000000) →
  ∃ (I : Int → List (List UInt8) → Prop),
  ∃ (m : Int → List (List UInt8) → Nat),
    I 0 [[]] ∧
      ∀ (i : Int) (out : List (List UInt8)),
        I i out →
          (i < (↑text.length : Int) →
              0 ≤ i ∧
                i < (↑text.length : Int) ∧
                  ((↑(gt text i).toNat : Int) = 10 →
                      (out.length + 1) * 16 ≤ 140737488355328 ∧
                        inI64 (i + 1) ∧ I (i + 1) (out ++ [[]]) ∧ m (i + 1) (out ++ [[]]) < m i out) ∧
                    (¬(↑(gt text i).toNat : Int) = 10 →
                      inI64 ((↑out.length : Int) - 1) ∧
                        0 ≤ (↑out.length : Int) - 1 ∧
                          (↑out.length : Int) - 1 < (↑out.length : Int) ∧
                            inI64 (i + 1) ∧
                              0 ≤ i ∧
                                i ≤ i + 1 ∧
                                  i + 1 ≤ (↑text.length : Int) ∧
                                    inI64
                                        ((↑(gt out ((↑out.length : Int) - 1)).length : Int) +
                                          (↑(List.drop i.toNat (List.take (i + 1).toNat text)).length : Int)) ∧
                                      0 ≤ (↑out.length : Int) - 1 ∧
                                        (↑out.length : Int) - 1 < (↑out.length : Int) ∧
                                          inI64 (i + 1) ∧
                                            I (i + 1)
                                                (out.set ((↑out.length : Int) - 1).toNat
                                                  (gt out ((↑out.length : Int) - 1) ++
                                                    List.drop i.toNat (List.take (i + 1).toNat text))) ∧
                                              m (i + 1)
                                                  (out.set ((↑out.length : Int) - 1).toNat
                                                    (gt out ((↑out.length : Int) - 1) ++
                                                      List.drop i.toNat (List.take (i + 1).toNat text))) <
                                                m i out)) ∧
            (¬i < (↑text.length : Int) → out = cutLines text)) :
    Con Try.prog f_ref_cutLines ref_cutLines_ct := ⟨ref_cutLines_ok.able, fun x hx =>
  con_eq hC (L := []) (trivial) ref_cutLines_ok (ct := ref_cutLines_ct) (depth := 0) (by kernel_rfl) x (H (@id (List UInt8) x) (mpr' hx (by kernel_rfl))) (by kernel_rfl)⟩

theorem ref_LinesStarts_vc (hC : Cons Try.prog [(f_ref_cutLines, ref_cutLines_ct)])
    (H : ∀ (text : List UInt8), (fitS text) →
  (600 < (↑text.length : Int) → [] = (linesStarts text).fst ∧ 1 = (linesStarts text).snd) ∧
  (¬600 < (↑text.length : Int) →
    text.length ≤ 1000000 ∧
      ∃ (I : Int → Int → List Int → Prop),
        ∃ (m : Int → Int → List Int → Nat),
          (cutLines text = cutLines text ∧ I 0 0 []) ∧
            ∀ (at_ x : Int) (out : List Int),
              I at_ x out →
                (x < (↑(cutLines text).length : Int) →
                    0 ≤ x ∧
                      x < (↑(cutLines text).length : Int) ∧
                        (out.length + 1) * 8 ≤ 140737488355328 ∧
                          inI64 ((↑(gt (cutLines text) x).length : Int) + 1) ∧
                            inI64 (at_ + ((↑(gt (cutLines text) x).length : Int) + 1)) ∧
                              inI64 (x + 1) ∧
                                cutLines text = cutLines text ∧
                                  I (at_ + ((↑(gt (cutLines text) x).length : Int) + 1)) (x + 1) (out ++ [at_]) ∧
                                    m (at_ + ((↑(gt (cutLines text) x).length : Int) + 1)) (x + 1) (out ++ [at_]) <
                                      m at_ x out) ∧
                  (¬x < (↑(cutLines text).length : Int) → out = (linesStarts text).fst ∧ 0 = (linesStarts text).snd))) :
    Con Try.prog f_ref_LinesStarts ref_LinesStarts_ct := ⟨ref_LinesStarts_ok.able, fun x hx =>
  con_eq hC (L := []) (trivial) ref_LinesStarts_ok (ct := ref_LinesStarts_ct) (depth := 0) (by kernel_rfl) x (H (@id (List UInt8) x) (mpr' hx (by kernel_rfl))) (by kernel_rfl)⟩

theorem ref_editMade_vc (hC : Cons Try.prog [])
    (H : ∀ (text : List UInt8) (e : Int × Int × List UInt8), (editMay (↑text.length : Int) e) →
  ∃ (I : List UInt8 → Int → Prop),
  ∃ (m : List UInt8 → Int → Nat),
    (e.fst = e.fst ∧ e.snd.fst = e.snd.fst ∧ e.snd.snd = e.snd.snd ∧ I [] 0) ∧
      ∀ (out : List UInt8) (i : Int),
        I out i →
          (i ≤ (↑text.length : Int) →
              (i = e.fst → inI64 ((↑out.length : Int) + (↑e.snd.snd.length : Int))) ∧
                (i < (↑text.length : Int) ∧ ¬i < e.fst → inI64 (e.fst + e.snd.fst)) ∧
                  (i < (↑text.length : Int) ∧ (i < e.fst ∨ e.fst + e.snd.fst ≤ i) → inI64 (i + 1)) ∧
                    (i < (↑text.length : Int) ∧ (i < e.fst ∨ e.fst + e.snd.fst ≤ i) → 0 ≤ i) ∧
                      (i < (↑text.length : Int) ∧ (i < e.fst ∨ e.fst + e.snd.fst ≤ i) → i ≤ i + 1) ∧
                        (i < (↑text.length : Int) ∧ (i < e.fst ∨ e.fst + e.snd.fst ≤ i) →
                            i + 1 ≤ (↑text.length : Int)) ∧
                          (i < (↑text.length : Int) ∧ (i < e.fst ∨ e.fst + e.snd.fst ≤ i) →
                              inI64
                                ((↑(iteP (i = e.fst) (out ++ e.snd.snd) out).length : Int) +
                                  (↑(List.drop i.toNat (List.take (i + 1).toNat text)).length : Int))) ∧
                            inI64 (i + 1) ∧
                              e.fst = e.fst ∧
                                e.snd.fst = e.snd.fst ∧
                                  e.snd.snd = e.snd.snd ∧
                                    I
                                        (iteP (i < (↑text.length : Int) ∧ (i < e.fst ∨ e.fst + e.snd.fst ≤ i))
                                          (iteP (i = e.fst) (out ++ e.snd.snd) out ++
                                            List.drop i.toNat (List.take (i + 1).toNat text))
                                          (iteP (i = e.fst) (out ++ e.snd.snd) out))
                                        (i + 1) ∧
                                      m
                                          (iteP (i < (↑text.length : Int) ∧ (i < e.fst ∨ e.fst + e.snd.fst ≤ i))
                                            (iteP (i = e.fst) (out ++ e.snd.snd) out ++
                                              List.drop i.toNat (List.take (i + 1).toNat text))
                                            (iteP (i = e.fst) (out ++ e.snd.snd) out))
                                          (i + 1) <
                                        m out i) ∧
            (¬i ≤ (↑text.length : Int) → out = editMade text e)) :
    Con Try.prog f_ref_editMade ref_editMade_ct := ⟨ref_editMade_ok.able, fun x hx =>
  con_eq hC (L := []) (trivial) ref_editMade_ok (ct := ref_editMade_ct) (depth := 0) (by kernel_rfl) x (H (@id (List UInt8 × (Int × Int × List UInt8)) x).1 (@id (List UInt8 × (Int × Int × List UInt8)) x).2 (mpr' hx (by kernel_rfl))) (by kernel_rfl)⟩

theorem ref_LinesUpdate_vc (hC : Cons Try.prog [(f_ref_startsMay, ref_startsMay_ct), (f_ref_EditFault, ref_EditFault_ct), (f_ref_LinesStarts, ref_LinesStarts_ct), (f_ref_editMade, ref_editMade_ct)])
    (H : ∀ (starts : List Int) (size : Int) (e : Int × Int × List UInt8), (fitL starts ∧ inI64 size ∧ editFits e) →
  fitL starts ∧
  (¬¬bo (startsOk starts) = true → inI64 ((↑starts.length : Int) - 1)) ∧
    (¬¬bo (startsOk starts) = true → 0 ≤ (↑starts.length : Int) - 1) ∧
      (¬¬bo (startsOk starts) = true → (↑starts.length : Int) - 1 < (↑starts.length : Int)) ∧
        (¬bo (startsOk starts) = true ∨ size < gt starts ((↑starts.length : Int) - 1) →
            [] = (linesUpdate starts size e).fst ∧ 4 = (linesUpdate starts size e).snd) ∧
          (¬(¬bo (startsOk starts) = true ∨ size < gt starts ((↑starts.length : Int) - 1)) →
            (inI64 size ∧ editFits (e.fst, e.snd.fst, e.snd.snd)) ∧
              (editFault size (e.fst, e.snd.fst, e.snd.snd) ≠ 0 →
                  [] = (linesUpdate starts size e).fst ∧
                    editFault size (e.fst, e.snd.fst, e.snd.snd) = (linesUpdate starts size e).snd) ∧
                (¬editFault size (e.fst, e.snd.fst, e.snd.snd) ≠ 0 →
                  ∃ (I : List UInt8 → Int → Prop),
                    ∃ (m : List UInt8 → Int → Nat),
                      (e.fst = e.fst ∧ e.snd.fst = e.snd.fst ∧ e.snd.snd = e.snd.snd ∧ I [] 0) ∧
                        ∀ (text : List UInt8) (i : Int),
                          I text i →
                            (i < size →
                                ∃ (I_1 : Bool → Int → Prop),
                                  ∃ (m_1 : Bool → Int → Nat),
                                    (e.fst = e.fst ∧ e.snd.fst = e.snd.fst ∧ e.snd.snd = e.snd.snd ∧ I_1 false 0) ∧
                                      ∀ (feed : Bool) (x : Int),
                                        I_1 feed x →
                                          (x < (↑starts.length : Int) →
                                              0 ≤ x ∧
                                                x < (↑starts.length : Int) ∧
                                                  (¬feed = true → inI64 (i + 1)) ∧
                                                    inI64 (x + 1) ∧
                                                      e.fst = e.fst ∧
                                                        e.snd.fst = e.snd.fst ∧
                                                          e.snd.snd = e.snd.snd ∧
                                                            I_1 (bo (feed = true ∨ gt starts x = i + 1)) (x + 1) ∧
                                                              m_1 (bo (feed = true ∨ gt starts x = i + 1)) (x + 1) <
                                                                m_1 feed x) ∧
                                            (¬x < (↑starts.length : Int) →
                                              (feed = true →
                                                  inI64 ((↑text.length : Int) + (↑1 : Int)) ∧
                                                    inI64 (i + 1) ∧
                                                      e.fst = e.fst ∧
                                                        e.snd.fst = e.snd.fst ∧
                                                          e.snd.snd = e.snd.snd ∧
                                                            I (text ++ [10]) (i + 1) ∧
                                                              m (text ++ [10]) (i + 1) < m text i) ∧
                                                (¬feed = true →
                                                  inI64 ((↑text.length : Int) + (↑1 : Int)) ∧
                                                    inI64 (i + 1) ∧
                                                      e.fst = e.fst ∧
                                                        e.snd.fst = e.snd.fst ∧
                                                          e.snd.snd = e.snd.snd ∧
                                                            I (text ++ [120]) (i + 1) ∧
                                                              m (text ++ [120]) (i + 1) < m text i))) ∧
                              (¬i < size →
                                editMay (↑text.length : Int) (e.fst, e.snd.fst, e.snd.snd) ∧
                                  fitS (editMade text (e.fst, e.snd.fst, e.snd.snd)) ∧
                                    (linesStarts (editMade text (e.fst, e.snd.fst, e.snd.snd))).fst =
                                        (linesUpdate starts size e).fst ∧
                                      (linesStarts (editMade text (e.fst, e.snd.fst, e.snd.snd))).snd =
                                        (linesUpdate starts size e).snd)))) :
    Con Try.prog f_ref_LinesUpdate ref_LinesUpdate_ct := ⟨ref_LinesUpdate_ok.able, fun x hx =>
  con_eq hC (L := []) (trivial) ref_LinesUpdate_ok (ct := ref_LinesUpdate_ct) (depth := 0) (by kernel_rfl) x (H (@id (List Int × Int × (Int × Int × List UInt8)) x).1 (@id (List Int × Int × (Int × Int × List UInt8)) x).2.1 (@id (List Int × Int × (Int × Int × List UInt8)) x).2.2 (mpr' hx (by kernel_rfl))) (by kernel_rfl)⟩

theorem law_sameInts_vc (hC : Cons Try.prog [])
    (H : ∀ (a : List Int) (b : List Int), (fitL a ∧ fitL b) →
  ((↑a.length : Int) ≠ (↑b.length : Int) → false = bo (a = b)) ∧
  (¬(↑a.length : Int) ≠ (↑b.length : Int) →
    ∃ (I : Int → Prop),
      ∃ (m : Int → Nat),
        I 0 ∧
          ∀ (i : Int),
            I i →
              (i < (↑a.length : Int) →
                  0 ≤ i ∧
                    i < (↑a.length : Int) ∧
                      0 ≤ i ∧
                        i < (↑b.length : Int) ∧
                          (gt a i ≠ gt b i → false = bo (a = b)) ∧
                            (¬gt a i ≠ gt b i → inI64 (i + 1) ∧ I (i + 1) ∧ m (i + 1) < m i)) ∧
                (¬i < (↑a.length : Int) → true = bo (a = b)))) :
    Con Try.prog f_law_sameInts law_sameInts_ct := ⟨law_sameInts_ok.able, fun x hx =>
  con_eq hC (L := []) (trivial) law_sameInts_ok (ct := law_sameInts_ct) (depth := 0) (by kernel_rfl) x (H (@id (List Int × List Int) x).1 (@id (List Int × List Int) x).2 (mpr' hx (by kernel_rfl))) (by kernel_rfl)⟩

theorem law_LinesUpdates_vc (hC : Cons Try.prog [(f_lines_Update, lines_Update_ct), (f_ref_LinesUpdate, ref_LinesUpdate_ct), (f_law_sameInts, law_sameInts_ct)])
    (H : ∀ (starts : List Int) (size : Int) (e : Int × Int × List UInt8), ((starts.length ≤ 140737488351232 ∧ ∀ (x : Int), List.Mem x starts → IntKind.i64.min ≤ x ∧ x ≤ IntKind.i64.max) ∧
  (IntKind.i64.min ≤ size ∧ size ≤ IntKind.i64.max) ∧
    (IntKind.i64.min ≤ e.1 ∧ e.1 ≤ IntKind.i64.max) ∧
      (IntKind.i64.min ≤ e.2.1 ∧ e.2.1 ≤ IntKind.i64.max) ∧ e.2.2.length.le 140737488351232) →
  (fitL starts ∧ inI64 size ∧ editFits (e.fst, e.snd.fst, e.snd.snd)) ∧
  (fitL starts ∧ inI64 size ∧ editFits (e.fst, e.snd.fst, e.snd.snd)) ∧
    (fitL (linesUpdate starts size (e.fst, e.snd.fst, e.snd.snd)).fst ∧
        fitL (linesUpdate starts size (e.fst, e.snd.fst, e.snd.snd)).fst) ∧
      bo
          (bo
                ((linesUpdate starts size (e.fst, e.snd.fst, e.snd.snd)).fst =
                  (linesUpdate starts size (e.fst, e.snd.fst, e.snd.snd)).fst) =
              true ∧
            (linesUpdate starts size (e.fst, e.snd.fst, e.snd.snd)).snd =
              (linesUpdate starts size (e.fst, e.snd.fst, e.snd.snd)).snd) =
        true) :
    Con Try.prog f_law_LinesUpdates law_LinesUpdates_ct := ⟨law_LinesUpdates_ok.able, fun x hx =>
  con_eq hC (L := []) (trivial) law_LinesUpdates_ok (ct := law_LinesUpdates_ct) (depth := 0) (by kernel_rfl) x (H (@id (List Int × Int × (Int × Int × List UInt8)) x).1 (@id (List Int × Int × (Int × Int × List UInt8)) x).2.1 (@id (List Int × Int × (Int × Int × List UInt8)) x).2.2 (mpr' hx (by kernel_rfl))) (by kernel_rfl)⟩

end Go.Proofs.Ytmknkkafindicaa
