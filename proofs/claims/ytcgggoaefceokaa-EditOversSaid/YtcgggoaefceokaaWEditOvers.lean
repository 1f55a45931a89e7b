/- The typed conditions of the functions, printed by a program of the claim's author; each gives the contract of its function. Conditions: none. -/
import Derived.Test.YtcgggoaefceokaaGEditOvers
import Derived.Test.YtcgggoaefceokaaVpA
import Derived.Test.YtcgggoaefceokaaVpB
import Derived.Test.YtcgggoaefceokaaVpC
import Derived.Test.YtcgggoaefceokaaVpE
import Derived.Test.YtcgggoaefceokaaVpD
import Derived.Test.YtcgggoaefceokaaVpG
import Derived.Test.YtcgggoaefceokaaVpI
import Derived.Test.YtcgggoaefceokaaVpJ
import Derived.Test.YtcgggoaefceokaaVpL
import Derived.Test.YtcgggoaefceokaaBase
set_option linter.unusedVariables false
set_option linter.unusedSimpArgs false
set_option maxRecDepth 100000
namespace Go.Proofs.Ytcgggoaefceokaa
open Go.Vc Go.Fu

theorem edit_Check_vc (hC : Cons Try.prog [])
    (H : ∀ (size : Int) (e : Int × Int × List UInt8), (inI64 size ∧ editFits e) →
  (¬((((size < 0 ∨ 600 < size) ∨ e.fst < 0) ∨ size < e.fst) ∨ e.snd.fst < 0) → inI64 (size - e.fst)) ∧
  (((((size < 0 ∨ 600 < size) ∨ e.fst < 0) ∨ size < e.fst) ∨ e.snd.fst < 0) ∨ size - e.fst < e.snd.fst →
      2 = editFault size e) ∧
    (¬(((((size < 0 ∨ 600 < size) ∨ e.fst < 0) ∨ size < e.fst) ∨ e.snd.fst < 0) ∨ size - e.fst < e.snd.fst) →
      inI64 (size - e.snd.fst) ∧
        inI64 (size - e.snd.fst + (↑e.snd.snd.length : Int)) ∧
          (600 < size - e.snd.fst + (↑e.snd.snd.length : Int) → 1 = editFault size e) ∧
            (¬600 < size - e.snd.fst + (↑e.snd.snd.length : Int) → 0 = editFault size e))) :
    Con Try.prog f_edit_Check edit_Check_ct := ⟨edit_Check_ok.able, fun x hx =>
  con_eq hC (L := []) (trivial) edit_Check_ok (ct := edit_Check_ct) (depth := 0) (by kernel_rfl) x (H (@id (Int × (Int × Int × List UInt8)) x).1 (@id (Int × (Int × Int × List UInt8)) x).2 (mpr' hx (by kernel_rfl))) (by kernel_rfl)⟩

theorem edit_nothing_vc (hC : Cons Try.prog [])
    (H : ∀ (e : Int × Int × List UInt8), (True) →
  bo (e.snd.fst = 0 ∧ e.snd.snd = []) = bo (editNothing e)) :
    Con Try.prog f_edit_nothing edit_nothing_ct := ⟨edit_nothing_ok.able, fun x hx =>
  con_eq hC (L := []) (trivial) edit_nothing_ok (ct := edit_nothing_ct) (depth := 0) (by kernel_rfl) x (H (@id ((Int × Int × List UInt8)) x) (mpr' hx (by kernel_rfl))) (by kernel_rfl)⟩

theorem edit_within_vc (hC : Cons Try.prog [])
    (H : ∀ (a : Int × Int × List UInt8) (b : Int × Int × List UInt8), (endFits b) →
  (a.snd.snd ≠ [] ∧ b.fst < a.fst → inI64 (b.fst + b.snd.fst)) ∧
  bo ((a.snd.snd ≠ [] ∧ b.fst < a.fst) ∧ a.fst < b.fst + b.snd.fst) = bo (editWithin a b)) :
    Con Try.prog f_edit_within edit_within_ct := ⟨edit_within_ok.able, fun x hx =>
  con_eq hC (L := []) (trivial) edit_within_ok (ct := edit_within_ct) (depth := 0) (by kernel_rfl) x (H (@id ((Int × Int × List UInt8) × (Int × Int × List UInt8)) x).1 (@id ((Int × Int × List UInt8) × (Int × Int × List UInt8)) x).2 (mpr' hx (by kernel_rfl))) (by kernel_rfl)⟩

theorem edit_clash_vc (hC : Cons Try.prog [(f_edit_nothing, edit_nothing_ct), (f_edit_within, edit_within_ct)])
    (H : ∀ (a : Int × Int × List UInt8) (b : Int × Int × List UInt8), (endFits a ∧ endFits b) →
  True ∧
  (¬bo (editNothing (a.fst, a.snd.fst, a.snd.snd)) = true → True) ∧
    (bo (editNothing (a.fst, a.snd.fst, a.snd.snd)) = true ∨ bo (editNothing (b.fst, b.snd.fst, b.snd.snd)) = true →
        false = bo (editClash a b)) ∧
      (¬(bo (editNothing (a.fst, a.snd.fst, a.snd.snd)) = true ∨
            bo (editNothing (b.fst, b.snd.fst, b.snd.snd)) = true) →
        inI64 (a.fst + a.snd.fst) ∧
          inI64 (b.fst + b.snd.fst) ∧
            (¬max a.fst b.fst < min (a.fst + a.snd.fst) (b.fst + b.snd.fst) → endFits (b.fst, b.snd.fst, b.snd.snd)) ∧
              (¬(max a.fst b.fst < min (a.fst + a.snd.fst) (b.fst + b.snd.fst) ∨
                      bo (editWithin (a.fst, a.snd.fst, a.snd.snd) (b.fst, b.snd.fst, b.snd.snd)) = true) →
                  endFits (a.fst, a.snd.fst, a.snd.snd)) ∧
                bo
                    ((max a.fst b.fst < min (a.fst + a.snd.fst) (b.fst + b.snd.fst) ∨
                        bo (editWithin (a.fst, a.snd.fst, a.snd.snd) (b.fst, b.snd.fst, b.snd.snd)) = true) ∨
                      bo (editWithin (b.fst, b.snd.fst, b.snd.snd) (a.fst, a.snd.fst, a.snd.snd)) = true) =
                  bo (editClash a b))) :
    Con Try.prog f_edit_clash edit_clash_ct := ⟨edit_clash_ok.able, fun x hx =>
  con_eq hC (L := []) (trivial) edit_clash_ok (ct := edit_clash_ct) (depth := 0) (by kernel_rfl) x (H (@id ((Int × Int × List UInt8) × (Int × Int × List UInt8)) x).1 (@id ((Int × Int × List UInt8) × (Int × Int × List UInt8)) x).2 (mpr' hx (by kernel_rfl))) (by kernel_rfl)⟩

theorem edit_Moved_vc (hC : Cons Try.prog [])
    (H : ∀ (e : Int × Int × List UInt8) (at_ : Int) (right : Bool), (movedPre e at_) →
  (at_ < e.fst → at_ = moved e at_ right) ∧
  (¬at_ < e.fst →
    (¬(e.snd.fst = 0 ∧ e.fst < at_) → 0 < e.snd.fst → inI64 (e.fst + e.snd.fst)) ∧
      (e.snd.fst = 0 ∧ e.fst < at_ ∨ 0 < e.snd.fst ∧ e.fst + e.snd.fst ≤ at_ →
          inI64 (at_ + (↑e.snd.snd.length : Int)) ∧
            inI64 (at_ + (↑e.snd.snd.length : Int) - e.snd.fst) ∧
              at_ + (↑e.snd.snd.length : Int) - e.snd.fst = moved e at_ right) ∧
        (¬(e.snd.fst = 0 ∧ e.fst < at_ ∨ 0 < e.snd.fst ∧ e.fst + e.snd.fst ≤ at_) →
          (right = true →
              inI64 (e.fst + (↑e.snd.snd.length : Int)) ∧ e.fst + (↑e.snd.snd.length : Int) = moved e at_ right) ∧
            (¬right = true → e.fst = moved e at_ right)))) :
    Con Try.prog f_edit_Moved edit_Moved_ct := ⟨edit_Moved_ok.able, fun x hx =>
  con_eq hC (L := []) (trivial) edit_Moved_ok (ct := edit_Moved_ct) (depth := 0) (by kernel_rfl) x (H (@id ((Int × Int × List UInt8) × Int × Bool) x).1 (@id ((Int × Int × List UInt8) × Int × Bool) x).2.1 (@id ((Int × Int × List UInt8) × Int × Bool) x).2.2 (mpr' hx (by kernel_rfl))) (by kernel_rfl)⟩

theorem edit_Over_vc (hC : Cons Try.prog [(f_edit_Check, edit_Check_ct), (f_edit_clash, edit_clash_ct), (f_edit_Moved, edit_Moved_ct)])
    (H : ∀ (size : Int) (a : Int × Int × List UInt8) (b : Int × Int × List UInt8), (inI64 size ∧ editFits a ∧ editFits b) →
  ∃ (I : Int → Int → Int → List UInt8 → Prop),
  ∃ (m : Int → Int → Int → List UInt8 → Nat),
    (a.fst = a.fst ∧
        a.snd.fst = a.snd.fst ∧
          a.snd.snd = a.snd.snd ∧ b.fst = b.fst ∧ b.snd.fst = b.snd.fst ∧ b.snd.snd = b.snd.snd ∧ I 0 0 0 []) ∧
      ∀ (x o o_1 : Int) (o_2 : List UInt8),
        I x o o_1 o_2 →
          (x < 2 →
              0 ≤ x ∧
                x < (↑2 : Int) ∧
                  (inI64 size ∧
                      editFits
                        (iteP (x = (↑0 : Int)) a.fst b.fst, iteP (x = (↑0 : Int)) a.snd.fst b.snd.fst,
                          iteP (x = (↑0 : Int)) a.snd.snd b.snd.snd)) ∧
                    (editFault size
                            (iteP (x = (↑0 : Int)) a.fst b.fst, iteP (x = (↑0 : Int)) a.snd.fst b.snd.fst,
                              iteP (x = (↑0 : Int)) a.snd.snd b.snd.snd) ≠
                          0 →
                        (0, 0, []) = (editOver size a b).fst ∧
                          editFault size
                              (iteP (x = (↑0 : Int)) a.fst b.fst, iteP (x = (↑0 : Int)) a.snd.fst b.snd.fst,
                                iteP (x = (↑0 : Int)) a.snd.snd b.snd.snd) =
                            (editOver size a b).snd) ∧
                      (¬editFault size
                              (iteP (x = (↑0 : Int)) a.fst b.fst, iteP (x = (↑0 : Int)) a.snd.fst b.snd.fst,
                                iteP (x = (↑0 : Int)) a.snd.snd b.snd.snd) ≠
                            0 →
                        inI64 (x + 1) ∧
                          a.fst = a.fst ∧
                            a.snd.fst = a.snd.fst ∧
                              a.snd.snd = a.snd.snd ∧
                                b.fst = b.fst ∧
                                  b.snd.fst = b.snd.fst ∧
                                    b.snd.snd = b.snd.snd ∧
                                      I (x + 1) o o_1 o_2 ∧ m (x + 1) o o_1 o_2 < m x o o_1 o_2)) ∧
            (¬x < 2 →
              (endFits (a.fst, a.snd.fst, a.snd.snd) ∧ endFits (b.fst, b.snd.fst, b.snd.snd)) ∧
                (bo (editClash (a.fst, a.snd.fst, a.snd.snd) (b.fst, b.snd.fst, b.snd.snd)) = true →
                    (0, 0, []) = (editOver size a b).fst ∧ 10 = (editOver size a b).snd) ∧
                  (¬bo (editClash (a.fst, a.snd.fst, a.snd.snd) (b.fst, b.snd.fst, b.snd.snd)) = true →
                    movedPre (b.fst, b.snd.fst, b.snd.snd) a.fst ∧
                      inI64 (size - b.snd.fst) ∧
                        inI64 (size - b.snd.fst + (↑b.snd.snd.length : Int)) ∧
                          (inI64 (size - b.snd.fst + (↑b.snd.snd.length : Int)) ∧
                              editFits
                                (moved (b.fst, b.snd.fst, b.snd.snd) a.fst
                                    (bo
                                      ((a.fst = b.fst ∧ b.snd.fst = 0) ∧
                                        (0 < a.snd.fst ∨
                                          ¬(Op.bytesLess a.snd.snd b.snd.snd = true ∨ a.snd.snd = b.snd.snd)))),
                                  a.snd.fst, a.snd.snd)) ∧
                            (editFault (size - b.snd.fst + (↑b.snd.snd.length : Int))
                                    (moved (b.fst, b.snd.fst, b.snd.snd) a.fst
                                        (bo
                                          ((a.fst = b.fst ∧ b.snd.fst = 0) ∧
                                            (0 < a.snd.fst ∨
                                              ¬(Op.bytesLess a.snd.snd b.snd.snd = true ∨ a.snd.snd = b.snd.snd)))),
                                      a.snd.fst, a.snd.snd) ≠
                                  0 →
                                (0, 0, []) = (editOver size a b).fst ∧
                                  editFault (size - b.snd.fst + (↑b.snd.snd.length : Int))
                                      (moved (b.fst, b.snd.fst, b.snd.snd) a.fst
                                          (bo
                                            ((a.fst = b.fst ∧ b.snd.fst = 0) ∧
                                              (0 < a.snd.fst ∨
                                                ¬(Op.bytesLess a.snd.snd b.snd.snd = true ∨ a.snd.snd = b.snd.snd)))),
                                        a.snd.fst, a.snd.snd) =
                                    (editOver size a b).snd) ∧
                              (¬editFault (size - b.snd.fst + (↑b.snd.snd.length : Int))
                                      (moved (b.fst, b.snd.fst, b.snd.snd) a.fst
                                          (bo
                                            ((a.fst = b.fst ∧ b.snd.fst = 0) ∧
                                              (0 < a.snd.fst ∨
                                                ¬(Op.bytesLess a.snd.snd b.snd.snd = true ∨ a.snd.snd = b.snd.snd)))),
                                        a.snd.fst, a.snd.snd) ≠
                                    0 →
                                (moved (b.fst, b.snd.fst, b.snd.snd) a.fst
                                        (bo
                                          ((a.fst = b.fst ∧ b.snd.fst = 0) ∧
                                            (0 < a.snd.fst ∨
                                              ¬(Op.bytesLess a.snd.snd b.snd.snd = true ∨ a.snd.snd = b.snd.snd)))),
                                      a.snd.fst, a.snd.snd) =
                                    (editOver size a b).fst ∧
                                  0 = (editOver size a b).snd)))) :
    Con Try.prog f_edit_Over edit_Over_ct := ⟨edit_Over_ok.able, fun x hx =>
  con_eq hC (L := []) (trivial) edit_Over_ok (ct := edit_Over_ct) (depth := 0) (by kernel_rfl) x (H (@id (Int × (Int × Int × List UInt8) × (Int × Int × List UInt8)) x).1 (@id (Int × (Int × Int × List UInt8) × (Int × Int × List UInt8)) x).2.1 (@id (Int × (Int × Int × List UInt8) × (Int × Int × List UInt8)) x).2.2 (mpr' hx (by kernel_rfl))) (by kernel_rfl)⟩

theorem ref_EditFault_vc (hC : Cons Try.prog [])
    (H : ∀ (size : Int) (e : Int × Int × List UInt8), (inI64 size ∧ editFits e) →
  (¬(((((size < 0 ∨ 600 < size) ∨ e.fst < 0) ∨ e.snd.fst < 0) ∨ size < e.fst) ∨ size < e.snd.fst) →
    inI64 (e.fst + e.snd.fst)) ∧
  ((((((size < 0 ∨ 600 < size) ∨ e.fst < 0) ∨ e.snd.fst < 0) ∨ size < e.fst) ∨ size < e.snd.fst) ∨
        size < e.fst + e.snd.fst →
      2 = editFault size e) ∧
    (¬((((((size < 0 ∨ 600 < size) ∨ e.fst < 0) ∨ e.snd.fst < 0) ∨ size < e.fst) ∨ size < e.snd.fst) ∨
          size < e.fst + e.snd.fst) →
      inI64 (size + (↑e.snd.snd.length : Int)) ∧
        inI64 (size + (↑e.snd.snd.length : Int) - e.snd.fst) ∧
          (600 < size + (↑e.snd.snd.length : Int) - e.snd.fst → 1 = editFault size e) ∧
            (¬600 < size + (↑e.snd.snd.length : Int) - e.snd.fst → 0 = editFault size e))) :
    Con Try.prog f_ref_EditFault ref_EditFault_ct := ⟨ref_EditFault_ok.able, fun x hx =>
  con_eq hC (L := []) (trivial) ref_EditFault_ok (ct := ref_EditFault_ct) (depth := 0) (by kernel_rfl) x (H (@id (Int × (Int × Int × List UInt8)) x).1 (@id (Int × (Int × Int × List UInt8)) x).2 (mpr' hx (by kernel_rfl))) (by kernel_rfl)⟩

theorem ref_editPlace_vc (hC : Cons Try.prog [])
    (H : ∀ (e : Int × Int × List UInt8) (at_ : Int) (right : Bool), (movedPre e at_) →
  (at_ < e.fst → at_ = moved e at_ right) ∧
  (¬at_ < e.fst →
    inI64 (e.fst + e.snd.fst) ∧
      (e.fst + e.snd.fst ≤ at_ ∧ ¬(e.snd.fst = 0 ∧ at_ = e.fst) →
          inI64 (at_ - e.snd.fst) ∧
            inI64 (at_ - e.snd.fst + (↑e.snd.snd.length : Int)) ∧
              at_ - e.snd.fst + (↑e.snd.snd.length : Int) = moved e at_ right) ∧
        (¬(e.fst + e.snd.fst ≤ at_ ∧ ¬(e.snd.fst = 0 ∧ at_ = e.fst)) →
          (right = true →
              inI64 (e.fst + (↑e.snd.snd.length : Int)) ∧ e.fst + (↑e.snd.snd.length : Int) = moved e at_ right) ∧
            (¬right = true → e.fst = moved e at_ right)))) :
    Con Try.prog f_ref_editPlace ref_editPlace_ct := ⟨ref_editPlace_ok.able, fun x hx =>
  con_eq hC (L := []) (trivial) ref_editPlace_ok (ct := ref_editPlace_ct) (depth := 0) (by kernel_rfl) x (H (@id ((Int × Int × List UInt8) × Int × Bool) x).1 (@id ((Int × Int × List UInt8) × Int × Bool) x).2.1 (@id ((Int × Int × List UInt8) × Int × Bool) x).2.2 (mpr' hx (by kernel_rfl))) (by kernel_rfl)⟩

theorem ref_EditOver_1_vc (hC : Cons Try.prog [])
    (H : ∀ (x : Int × Int × List UInt8), (True) →
  bo (0 < x.snd.fst ∨ x.snd.snd ≠ []) = bo (editDoes x)) :
    Con Try.prog f_ref_EditOver_1 ref_EditOver_1_ct := ⟨ref_EditOver_1_ok.able, fun x hx =>
  con_eq hC (L := []) (trivial) ref_EditOver_1_ok (ct := ref_EditOver_1_ct) (depth := 0) (by kernel_rfl) x (H (@id ((Int × Int × List UInt8)) x) (mpr' hx (by kernel_rfl))) (by kernel_rfl)⟩

theorem ref_EditOver_2_vc (hC : Cons Try.prog [])
    (H : ∀ (x : Int × Int × List UInt8) (i : Int), (endFits x) →
  (x.fst ≤ i → inI64 (x.fst + x.snd.fst)) ∧ bo (x.fst ≤ i ∧ i < x.fst + x.snd.fst) = bo (editCuts x i)) :
    Con Try.prog f_ref_EditOver_2 ref_EditOver_2_ct := ⟨ref_EditOver_2_ok.able, fun x hx =>
  con_eq hC (L := []) (trivial) ref_EditOver_2_ok (ct := ref_EditOver_2_ct) (depth := 0) (by kernel_rfl) x (H (@id ((Int × Int × List UInt8) × Int) x).1 (@id ((Int × Int × List UInt8) × Int) x).2 (mpr' hx (by kernel_rfl))) (by kernel_rfl)⟩

theorem ref_EditOver_vc (hC : Cons Try.prog [(f_ref_EditFault, ref_EditFault_ct), (f_ref_editPlace, ref_editPlace_ct), (f_ref_EditOver_1, ref_EditOver_1_ct), (f_ref_EditOver_2, ref_EditOver_2_ct)])
    (H : ∀ (size : Int) (a : Int × Int × List UInt8) (b : Int × Int × List UInt8), (inI64 size ∧ editFits a ∧ editFits b) →
  (inI64 size ∧ editFits (a.fst, a.snd.fst, a.snd.snd)) ∧
  (editFault size (a.fst, a.snd.fst, a.snd.snd) = 0 → inI64 size ∧ editFits (b.fst, b.snd.fst, b.snd.snd)) ∧
    (iteP (editFault size (a.fst, a.snd.fst, a.snd.snd) = 0) (editFault size (b.fst, b.snd.fst, b.snd.snd))
            (editFault size (a.fst, a.snd.fst, a.snd.snd)) ≠
          0 →
        (0, 0, []) = (editOver size a b).fst ∧
          iteP (editFault size (a.fst, a.snd.fst, a.snd.snd) = 0) (editFault size (b.fst, b.snd.fst, b.snd.snd))
              (editFault size (a.fst, a.snd.fst, a.snd.snd)) =
            (editOver size a b).snd) ∧
      (¬iteP (editFault size (a.fst, a.snd.fst, a.snd.snd) = 0) (editFault size (b.fst, b.snd.fst, b.snd.snd))
              (editFault size (a.fst, a.snd.fst, a.snd.snd)) ≠
            0 →
        True ∧
          (bo (editDoes (a.fst, a.snd.fst, a.snd.snd)) = true → True) ∧
            (bo (editDoes (a.fst, a.snd.fst, a.snd.snd)) = true ∧ bo (editDoes (b.fst, b.snd.fst, b.snd.snd)) = true →
                ∃ (I : Int → Int → Int → List UInt8 → Prop),
                  ∃ (m : Int → Int → Int → List UInt8 → Nat),
                    (a.fst = a.fst ∧
                        a.snd.fst = a.snd.fst ∧
                          a.snd.snd = a.snd.snd ∧
                            b.fst = b.fst ∧ b.snd.fst = b.snd.fst ∧ b.snd.snd = b.snd.snd ∧ I 0 0 0 []) ∧
                      ∀ (i o o_1 : Int) (o_2 : List UInt8),
                        I i o o_1 o_2 →
                          (i < size →
                              endFits (a.fst, a.snd.fst, a.snd.snd) ∧
                                (bo (editCuts (a.fst, a.snd.fst, a.snd.snd) i) = true →
                                    endFits (b.fst, b.snd.fst, b.snd.snd)) ∧
                                  (bo (editCuts (a.fst, a.snd.fst, a.snd.snd) i) = true ∧
                                        bo (editCuts (b.fst, b.snd.fst, b.snd.snd) i) = true →
                                      (0, 0, []) = (editOver size a b).fst ∧ 10 = (editOver size a b).snd) ∧
                                    (¬(bo (editCuts (a.fst, a.snd.fst, a.snd.snd) i) = true ∧
                                          bo (editCuts (b.fst, b.snd.fst, b.snd.snd) i) = true) →
                                      (a.snd.snd ≠ [] ∧ a.fst = i → inI64 (i - 1)) ∧
                                        (a.snd.snd ≠ [] ∧ a.fst = i → endFits (b.fst, b.snd.fst, b.snd.snd)) ∧
                                          ((a.snd.snd ≠ [] ∧ a.fst = i) ∧
                                                bo (editCuts (b.fst, b.snd.fst, b.snd.snd) (i - 1)) = true →
                                              endFits (b.fst, b.snd.fst, b.snd.snd)) ∧
                                            (¬(((a.snd.snd ≠ [] ∧ a.fst = i) ∧
                                                        bo (editCuts (b.fst, b.snd.fst, b.snd.snd) (i - 1)) = true) ∧
                                                      bo (editCuts (b.fst, b.snd.fst, b.snd.snd) i) = true) ∧
                                                  b.snd.snd ≠ [] ∧ b.fst = i →
                                                inI64 (i - 1)) ∧
                                              (¬(((a.snd.snd ≠ [] ∧ a.fst = i) ∧
                                                          bo (editCuts (b.fst, b.snd.fst, b.snd.snd) (i - 1)) = true) ∧
                                                        bo (editCuts (b.fst, b.snd.fst, b.snd.snd) i) = true) ∧
                                                    b.snd.snd ≠ [] ∧ b.fst = i →
                                                  endFits (a.fst, a.snd.fst, a.snd.snd)) ∧
                                                (¬(((a.snd.snd ≠ [] ∧ a.fst = i) ∧
                                                            bo (editCuts (b.fst, b.snd.fst, b.snd.snd) (i - 1)) =
                                                              true) ∧
                                                          bo (editCuts (b.fst, b.snd.fst, b.snd.snd) i) = true) ∧
                                                      (b.snd.snd ≠ [] ∧ b.fst = i) ∧
                                                        bo (editCuts (a.fst, a.snd.fst, a.snd.snd) (i - 1)) = true →
                                                    endFits (a.fst, a.snd.fst, a.snd.snd)) ∧
                                                  (((a.snd.snd ≠ [] ∧ a.fst = i) ∧
                                                            bo (editCuts (b.fst, b.snd.fst, b.snd.snd) (i - 1)) =
                                                              true) ∧
                                                          bo (editCuts (b.fst, b.snd.fst, b.snd.snd) i) = true ∨
                                                        ((b.snd.snd ≠ [] ∧ b.fst = i) ∧
                                                            bo (editCuts (a.fst, a.snd.fst, a.snd.snd) (i - 1)) =
                                                              true) ∧
                                                          bo (editCuts (a.fst, a.snd.fst, a.snd.snd) i) = true →
                                                      (0, 0, []) = (editOver size a b).fst ∧
                                                        10 = (editOver size a b).snd) ∧
                                                    (¬(((a.snd.snd ≠ [] ∧ a.fst = i) ∧
                                                              bo (editCuts (b.fst, b.snd.fst, b.snd.snd) (i - 1)) =
                                                                true) ∧
                                                            bo (editCuts (b.fst, b.snd.fst, b.snd.snd) i) = true ∨
                                                          ((b.snd.snd ≠ [] ∧ b.fst = i) ∧
                                                              bo (editCuts (a.fst, a.snd.fst, a.snd.snd) (i - 1)) =
                                                                true) ∧
                                                            bo (editCuts (a.fst, a.snd.fst, a.snd.snd) i) = true) →
                                                      inI64 (i + 1) ∧
                                                        a.fst = a.fst ∧
                                                          a.snd.fst = a.snd.fst ∧
                                                            a.snd.snd = a.snd.snd ∧
                                                              b.fst = b.fst ∧
                                                                b.snd.fst = b.snd.fst ∧
                                                                  b.snd.snd = b.snd.snd ∧
                                                                    I (i + 1) o o_1 o_2 ∧
                                                                      m (i + 1) o o_1 o_2 < m i o o_1 o_2))) ∧
                            (¬i < size →
                              movedPre (b.fst, b.snd.fst, b.snd.snd) a.fst ∧
                                inI64 (size + (↑b.snd.snd.length : Int)) ∧
                                  inI64 (size + (↑b.snd.snd.length : Int) - b.snd.fst) ∧
                                    (inI64 (size + (↑b.snd.snd.length : Int) - b.snd.fst) ∧
                                        editFits
                                          (moved (b.fst, b.snd.fst, b.snd.snd) a.fst
                                              (bo
                                                ((a.fst = b.fst ∧ b.snd.fst = 0) ∧
                                                  (0 < a.snd.fst ∨ Op.bytesLess b.snd.snd a.snd.snd = true))),
                                            a.snd.fst, a.snd.snd)) ∧
                                      (editFault (size + (↑b.snd.snd.length : Int) - b.snd.fst)
                                              (moved (b.fst, b.snd.fst, b.snd.snd) a.fst
                                                  (bo
                                                    ((a.fst = b.fst ∧ b.snd.fst = 0) ∧
                                                      (0 < a.snd.fst ∨ Op.bytesLess b.snd.snd a.snd.snd = true))),
                                                a.snd.fst, a.snd.snd) ≠
                                            0 →
                                          (0, 0, []) = (editOver size a b).fst ∧
                                            editFault (size + (↑b.snd.snd.length : Int) - b.snd.fst)
                                                (moved (b.fst, b.snd.fst, b.snd.snd) a.fst
                                                    (bo
                                                      ((a.fst = b.fst ∧ b.snd.fst = 0) ∧
                                                        (0 < a.snd.fst ∨ Op.bytesLess b.snd.snd a.snd.snd = true))),
                                                  a.snd.fst, a.snd.snd) =
                                              (editOver size a b).snd) ∧
                                        (¬editFault (size + (↑b.snd.snd.length : Int) - b.snd.fst)
                                                (moved (b.fst, b.snd.fst, b.snd.snd) a.fst
                                                    (bo
                                                      ((a.fst = b.fst ∧ b.snd.fst = 0) ∧
                                                        (0 < a.snd.fst ∨ Op.bytesLess b.snd.snd a.snd.snd = true))),
                                                  a.snd.fst, a.snd.snd) ≠
                                              0 →
                                          (moved (b.fst, b.snd.fst, b.snd.snd) a.fst
                                                  (bo
                                                    ((a.fst = b.fst ∧ b.snd.fst = 0) ∧
                                                      (0 < a.snd.fst ∨ Op.bytesLess b.snd.snd a.snd.snd = true))),
                                                a.snd.fst, a.snd.snd) =
                                              (editOver size a b).fst ∧
                                            0 = (editOver size a b).snd))) ∧
              (¬(bo (editDoes (a.fst, a.snd.fst, a.snd.snd)) = true ∧
                    bo (editDoes (b.fst, b.snd.fst, b.snd.snd)) = true) →
                movedPre (b.fst, b.snd.fst, b.snd.snd) a.fst ∧
                  inI64 (size + (↑b.snd.snd.length : Int)) ∧
                    inI64 (size + (↑b.snd.snd.length : Int) - b.snd.fst) ∧
                      (inI64 (size + (↑b.snd.snd.length : Int) - b.snd.fst) ∧
                          editFits
                            (moved (b.fst, b.snd.fst, b.snd.snd) a.fst
                                (bo
                                  ((a.fst = b.fst ∧ b.snd.fst = 0) ∧
                                    (0 < a.snd.fst ∨ Op.bytesLess b.snd.snd a.snd.snd = true))),
                              a.snd.fst, a.snd.snd)) ∧
                        (editFault (size + (↑b.snd.snd.length : Int) - b.snd.fst)
                                (moved (b.fst, b.snd.fst, b.snd.snd) a.fst
                                    (bo
                                      ((a.fst = b.fst ∧ b.snd.fst = 0) ∧
                                        (0 < a.snd.fst ∨ Op.bytesLess b.snd.snd a.snd.snd = true))),
                                  a.snd.fst, a.snd.snd) ≠
                              0 →
                            (0, 0, []) = (editOver size a b).fst ∧
                              editFault (size + (↑b.snd.snd.length : Int) - b.snd.fst)
                                  (moved (b.fst, b.snd.fst, b.snd.snd) a.fst
                                      (bo
                                        ((a.fst = b.fst ∧ b.snd.fst = 0) ∧
                                          (0 < a.snd.fst ∨ Op.bytesLess b.snd.snd a.snd.snd = true))),
                                    a.snd.fst, a.snd.snd) =
                                (editOver size a b).snd) ∧
                          (¬editFault (size + (↑b.snd.snd.length : Int) - b.snd.fst)
                                  (moved (b.fst, b.snd.fst, b.snd.snd) a.fst
                                      (bo
                                        ((a.fst = b.fst ∧ b.snd.fst = 0) ∧
                                          (0 < a.snd.fst ∨ Op.bytesLess b.snd.snd a.snd.snd = true))),
                                    a.snd.fst, a.snd.snd) ≠
                                0 →
                            (moved (b.fst, b.snd.fst, b.snd.snd) a.fst
                                    (bo
                                      ((a.fst = b.fst ∧ b.snd.fst = 0) ∧
                                        (0 < a.snd.fst ∨ Op.bytesLess b.snd.snd a.snd.snd = true))),
                                  a.snd.fst, a.snd.snd) =
                                (editOver size a b).fst ∧
                              0 = (editOver size a b).snd)))) :
    Con Try.prog f_ref_EditOver ref_EditOver_ct := ⟨ref_EditOver_ok.able, fun x hx =>
  con_eq hC (L := []) (trivial) ref_EditOver_ok (ct := ref_EditOver_ct) (depth := 0) (by kernel_rfl) x (H (@id (Int × (Int × Int × List UInt8) × (Int × Int × List UInt8)) x).1 (@id (Int × (Int × Int × List UInt8) × (Int × Int × List UInt8)) x).2.1 (@id (Int × (Int × Int × List UInt8) × (Int × Int × List UInt8)) x).2.2 (mpr' hx (by kernel_rfl))) (by kernel_rfl)⟩

theorem law_EditOvers_vc (hC : Cons Try.prog [(f_edit_Over, edit_Over_ct), (f_ref_EditOver, ref_EditOver_ct)])
    (H : ∀ (size : Int) (a : Int × Int × List UInt8) (b : Int × Int × List UInt8), ((IntKind.i64.min ≤ size ∧ size ≤ IntKind.i64.max) ∧
  ((IntKind.i64.min ≤ a.1 ∧ a.1 ≤ IntKind.i64.max) ∧
      (IntKind.i64.min ≤ a.2.1 ∧ a.2.1 ≤ IntKind.i64.max) ∧ a.2.2.length.le 140737488351232) ∧
    (IntKind.i64.min ≤ b.1 ∧ b.1 ≤ IntKind.i64.max) ∧
      (IntKind.i64.min ≤ b.2.1 ∧ b.2.1 ≤ IntKind.i64.max) ∧ b.2.2.length.le 140737488351232) →
  (inI64 size ∧ editFits (a.fst, a.snd.fst, a.snd.snd) ∧ editFits (b.fst, b.snd.fst, b.snd.snd)) ∧
  (inI64 size ∧ editFits (a.fst, a.snd.fst, a.snd.snd) ∧ editFits (b.fst, b.snd.fst, b.snd.snd)) ∧
    bo
        (((editOver size (a.fst, a.snd.fst, a.snd.snd) (b.fst, b.snd.fst, b.snd.snd)).fst.fst =
              (editOver size (a.fst, a.snd.fst, a.snd.snd) (b.fst, b.snd.fst, b.snd.snd)).fst.fst ∧
            (editOver size (a.fst, a.snd.fst, a.snd.snd) (b.fst, b.snd.fst, b.snd.snd)).fst.snd.fst =
                (editOver size (a.fst, a.snd.fst, a.snd.snd) (b.fst, b.snd.fst, b.snd.snd)).fst.snd.fst ∧
              (editOver size (a.fst, a.snd.fst, a.snd.snd) (b.fst, b.snd.fst, b.snd.snd)).fst.snd.snd =
                (editOver size (a.fst, a.snd.fst, a.snd.snd) (b.fst, b.snd.fst, b.snd.snd)).fst.snd.snd) ∧
          (editOver size (a.fst, a.snd.fst, a.snd.snd) (b.fst, b.snd.fst, b.snd.snd)).snd =
            (editOver size (a.fst, a.snd.fst, a.snd.snd) (b.fst, b.snd.fst, b.snd.snd)).snd) =
      true) :
    Con Try.prog f_law_EditOvers law_EditOvers_ct := ⟨law_EditOvers_ok.able, fun x hx =>
  con_eq hC (L := []) (trivial) law_EditOvers_ok (ct := law_EditOvers_ct) (depth := 0) (by kernel_rfl) x (H (@id (Int × (Int × Int × List UInt8) × (Int × Int × List UInt8)) x).1 (@id (Int × (Int × Int × List UInt8) × (Int × Int × List UInt8)) x).2.1 (@id (Int × (Int × Int × List UInt8) × (Int × Int × List UInt8)) x).2.2 (mpr' hx (by kernel_rfl))) (by kernel_rfl)⟩

end Go.Proofs.Ytcgggoaefceokaa
