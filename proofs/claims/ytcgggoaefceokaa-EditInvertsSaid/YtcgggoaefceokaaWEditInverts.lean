/- The typed conditions of the functions, printed by a program of the claim's author; each gives the contract of its function. Conditions: none. -/
import Derived.Test.YtcgggoaefceokaaGEditInverts
import Derived.Test.YtcgggoaefceokaaVpA
import Derived.Test.YtcgggoaefceokaaVpB
import Derived.Test.YtcgggoaefceokaaVpC
import Derived.Test.YtcgggoaefceokaaVpE
import Derived.Test.YtcgggoaefceokaaVpJ
import Derived.Test.YtcgggoaefceokaaBase
set_option linter.unusedVariables false
set_option linter.unusedSimpArgs false
set_option maxRecDepth 100000
namespace Go.Proofs.Ytcgggoaefceokaa
open Go.Vc Go.Fu

theorem edit_Check_vc (hC : Cons Try.prog [])
    (H : ∀ (size : Int) (e : Int × Int × List UInt8), (inI64 size ∧ editFits e) →
  (¬((((size < 0 ∨ 600 < size) ∨ e.fst < 0) ∨ size < e.fst) ∨ e.snd.fst < 0) → inI64 (size - e.fst)) ∧
  (((((size < 0 ∨ 600 < size) ∨ e.fst < 0) ∨ size < e.fst) ∨ e.snd.fst < 0) ∨ size - e.fst < e.snd.fst →
      2 = editFault size e) ∧
    (¬(((((size < 0 ∨ 600 < size) ∨ e.fst < 0) ∨ size < e.fst) ∨ e.snd.fst < 0) ∨ size - e.fst < e.snd.fst) →
      inI64 (size - e.snd.fst) ∧
        inI64 (size - e.snd.fst + (↑e.snd.snd.length : Int)) ∧
          (600 < size - e.snd.fst + (↑e.snd.snd.length : Int) → 1 = editFault size e) ∧
            (¬600 < size - e.snd.fst + (↑e.snd.snd.length : Int) → 0 = editFault size e))) :
    Con Try.prog f_edit_Check edit_Check_ct := fun x hx =>
  con_eq hC (L := []) (trivial) edit_Check_ok (ct := edit_Check_ct) (depth := 0) (by kernel_rfl) x (H (@id (Int × (Int × Int × List UInt8)) x).1 (@id (Int × (Int × Int × List UInt8)) x).2 (mpr' hx (by kernel_rfl))) (by kernel_rfl)

theorem edit_Made_vc (hC : Cons Try.prog [])
    (H : ∀ (text : List UInt8) (e : Int × Int × List UInt8), (editMay (↑text.length : Int) e) →
  (0 : Int) ≤ (0 : Int) ∧
  (0 : Int) ≤ e.fst ∧
    e.fst ≤ (↑text.length : Int) ∧
      inI64
          ((↑(List.drop (Int.toNat (0 : Int)) (List.take e.fst.toNat text)).length : Int) + (↑e.snd.snd.length : Int)) ∧
        inI64 (e.fst + e.snd.fst) ∧
          (0 : Int) ≤ e.fst + e.snd.fst ∧
            e.fst + e.snd.fst ≤ (↑text.length : Int) ∧
              (↑text.length : Int) ≤ (↑text.length : Int) ∧
                inI64
                    ((↑(List.drop (Int.toNat (0 : Int)) (List.take e.fst.toNat text) ++ e.snd.snd).length : Int) +
                      (↑(List.drop (e.fst + e.snd.fst).toNat (List.take (↑text.length : Int).toNat text)).length :
                        Int)) ∧
                  List.drop (Int.toNat (0 : Int)) (List.take e.fst.toNat text) ++ e.snd.snd ++
                      List.drop (e.fst + e.snd.fst).toNat (List.take (↑text.length : Int).toNat text) =
                    editMade text e) :
    Con Try.prog f_edit_Made edit_Made_ct := fun x hx =>
  con_eq hC (L := []) (trivial) edit_Made_ok (ct := edit_Made_ct) (depth := 0) (by kernel_rfl) x (H (@id (List UInt8 × (Int × Int × List UInt8)) x).1 (@id (List UInt8 × (Int × Int × List UInt8)) x).2 (mpr' hx (by kernel_rfl))) (by kernel_rfl)

theorem edit_Undo_vc (hC : Cons Try.prog [])
    (H : ∀ (text : List UInt8) (e : Int × Int × List UInt8), (editMay (↑text.length : Int) e) →
  inI64 (e.fst + e.snd.fst) ∧
  0 ≤ e.fst ∧
    e.fst ≤ e.fst + e.snd.fst ∧
      e.fst + e.snd.fst ≤ (↑text.length : Int) ∧
        (e.fst, (↑e.snd.snd.length : Int), List.drop e.fst.toNat (List.take (e.fst + e.snd.fst).toNat text)) =
          editUndo text e) :
    Con Try.prog f_edit_Undo edit_Undo_ct := fun x hx =>
  con_eq hC (L := []) (trivial) edit_Undo_ok (ct := edit_Undo_ct) (depth := 0) (by kernel_rfl) x (H (@id (List UInt8 × (Int × Int × List UInt8)) x).1 (@id (List UInt8 × (Int × Int × List UInt8)) x).2 (mpr' hx (by kernel_rfl))) (by kernel_rfl)

theorem edit_run_vc (hC : Cons Try.prog [(f_edit_Check, edit_Check_ct), (f_edit_Made, edit_Made_ct), (f_edit_Undo, edit_Undo_ct)])
    (H : ∀ (text : List UInt8) (l : List (Int × Int × List UInt8)), (editsFit l) →
  (60 < (↑l.length : Int) ∨ 600 < (↑text.length : Int) →
    [] = (editRun text l).fst ∧ [] = (editRun text l).snd.fst ∧ 1 = (editRun text l).snd.snd) ∧
  (¬(60 < (↑l.length : Int) ∨ 600 < (↑text.length : Int)) →
    ∃ (I : List UInt8 → Int → List (Int × Int × List UInt8) → Prop),
      ∃ (m : List UInt8 → Int → List (Int × Int × List UInt8) → Nat),
        I text 0 [] ∧
          ∀ (text_1 : List UInt8) (x : Int) (back : List (Int × Int × List UInt8)),
            I text_1 x back →
              (x < (↑l.length : Int) →
                  0 ≤ x ∧
                    x < (↑l.length : Int) ∧
                      (inI64 (↑text_1.length : Int) ∧ editFits ((gt l x).fst, (gt l x).snd.fst, (gt l x).snd.snd)) ∧
                        (editFault (↑text_1.length : Int) ((gt l x).fst, (gt l x).snd.fst, (gt l x).snd.snd) ≠ 0 →
                            [] = (editRun text l).fst ∧
                              [] = (editRun text l).snd.fst ∧
                                editFault (↑text_1.length : Int) ((gt l x).fst, (gt l x).snd.fst, (gt l x).snd.snd) =
                                  (editRun text l).snd.snd) ∧
                          (¬editFault (↑text_1.length : Int) ((gt l x).fst, (gt l x).snd.fst, (gt l x).snd.snd) ≠ 0 →
                            editMay (↑text_1.length : Int) ((gt l x).fst, (gt l x).snd.fst, (gt l x).snd.snd) ∧
                              (back.length + 1) * 32 ≤ 140737488355328 ∧
                                editMay (↑text_1.length : Int) ((gt l x).fst, (gt l x).snd.fst, (gt l x).snd.snd) ∧
                                  inI64 (x + 1) ∧
                                    I (editMade text_1 ((gt l x).fst, (gt l x).snd.fst, (gt l x).snd.snd)) (x + 1)
                                        (back ++
                                          [((editUndo text_1 ((gt l x).fst, (gt l x).snd.fst, (gt l x).snd.snd)).fst,
                                              (editUndo text_1
                                                    ((gt l x).fst, (gt l x).snd.fst, (gt l x).snd.snd)).snd.fst,
                                              (editUndo text_1
                                                    ((gt l x).fst, (gt l x).snd.fst, (gt l x).snd.snd)).snd.snd)]) ∧
                                      m (editMade text_1 ((gt l x).fst, (gt l x).snd.fst, (gt l x).snd.snd)) (x + 1)
                                          (back ++
                                            [((editUndo text_1 ((gt l x).fst, (gt l x).snd.fst, (gt l x).snd.snd)).fst,
                                                (editUndo text_1
                                                      ((gt l x).fst, (gt l x).snd.fst, (gt l x).snd.snd)).snd.fst,
                                                (editUndo text_1
                                                      ((gt l x).fst, (gt l x).snd.fst, (gt l x).snd.snd)).snd.snd)]) <
                                        m text_1 x back)) ∧
                (¬x < (↑l.length : Int) →
                  text_1 = (editRun text l).fst ∧ back = (editRun text l).snd.fst ∧ 0 = (editRun text l).snd.snd))) :
    Con Try.prog f_edit_run edit_run_ct := fun x hx =>
  con_eq hC (L := []) (trivial) edit_run_ok (ct := edit_run_ct) (depth := 0) (by kernel_rfl) x (H (@id (List UInt8 × (List (Int × Int × List UInt8))) x).1 (@id (List UInt8 × (List (Int × Int × List UInt8))) x).2 (mpr' hx (by kernel_rfl))) (by kernel_rfl)

theorem edit_Invert_vc (hC : Cons Try.prog [(f_edit_run, edit_run_ct)])
    (H : ∀ (text : List UInt8) (l : List (Int × Int × List UInt8)), (editsFit l) →
  editsFit l ∧
  inI64 ((↑(editRun text l).snd.fst.length : Int) - 1) ∧
    ∃ (I : Int → Int → List (Int × Int × List UInt8) → Prop),
      ∃ (m : Int → Int → List (Int × Int × List UInt8) → Nat),
        I 0 ((↑(editRun text l).snd.fst.length : Int) - 1) (editRun text l).snd.fst ∧
          ∀ (i j : Int) (s : List (Int × Int × List UInt8)),
            I i j s →
              (i < j →
                  0 ≤ j ∧
                    j < (↑s.length : Int) ∧
                      0 ≤ i ∧
                        i < (↑s.length : Int) ∧
                          0 ≤ i ∧
                            i < (↑s.length : Int) ∧
                              0 ≤ j ∧
                                j < (↑(s.set i.toNat ((gt s j).fst, (gt s j).snd.fst, (gt s j).snd.snd)).length : Int) ∧
                                  inI64 (i + 1) ∧
                                    inI64 (j - 1) ∧
                                      I (i + 1) (j - 1)
                                          ((s.set i.toNat ((gt s j).fst, (gt s j).snd.fst, (gt s j).snd.snd)).set
                                            j.toNat ((gt s i).fst, (gt s i).snd.fst, (gt s i).snd.snd)) ∧
                                        m (i + 1) (j - 1)
                                            ((s.set i.toNat ((gt s j).fst, (gt s j).snd.fst, (gt s j).snd.snd)).set
                                              j.toNat ((gt s i).fst, (gt s i).snd.fst, (gt s i).snd.snd)) <
                                          m i j s) ∧
                (¬i < j → s = (editInvert text l).fst ∧ (editRun text l).snd.snd = (editInvert text l).snd)) :
    Con Try.prog f_edit_Invert edit_Invert_ct := fun x hx =>
  con_eq hC (L := [(f_slices_Reverse___api_Edit_api_Edit_, slices_Reverse___api_Edit_api_Edit__fi)]) (⟨slices_Reverse___api_Edit_api_Edit__ok, trivial⟩) edit_Invert_ok (ct := edit_Invert_ct) (depth := 3) (by kernel_rfl) x (H (@id (List UInt8 × (List (Int × Int × List UInt8))) x).1 (@id (List UInt8 × (List (Int × Int × List UInt8))) x).2 (mpr' hx (by kernel_rfl))) (by kernel_rfl)

theorem ref_EditFault_vc (hC : Cons Try.prog [])
    (H : ∀ (size : Int) (e : Int × Int × List UInt8), (inI64 size ∧ editFits e) →
  (¬(((((size < 0 ∨ 600 < size) ∨ e.fst < 0) ∨ e.snd.fst < 0) ∨ size < e.fst) ∨ size < e.snd.fst) →
    inI64 (e.fst + e.snd.fst)) ∧
  ((((((size < 0 ∨ 600 < size) ∨ e.fst < 0) ∨ e.snd.fst < 0) ∨ size < e.fst) ∨ size < e.snd.fst) ∨
        size < e.fst + e.snd.fst →
      2 = editFault size e) ∧
    (¬((((((size < 0 ∨ 600 < size) ∨ e.fst < 0) ∨ e.snd.fst < 0) ∨ size < e.fst) ∨ size < e.snd.fst) ∨
          size < e.fst + e.snd.fst) →
      inI64 (size + (↑e.snd.snd.length : Int)) ∧
        inI64 (size + (↑e.snd.snd.length : Int) - e.snd.fst) ∧
          (600 < size + (↑e.snd.snd.length : Int) - e.snd.fst → 1 = editFault size e) ∧
            (¬600 < size + (↑e.snd.snd.length : Int) - e.snd.fst → 0 = editFault size e))) :
    Con Try.prog f_ref_EditFault ref_EditFault_ct := fun x hx =>
  con_eq hC (L := []) (trivial) ref_EditFault_ok (ct := ref_EditFault_ct) (depth := 0) (by kernel_rfl) x (H (@id (Int × (Int × Int × List UInt8)) x).1 (@id (Int × (Int × Int × List UInt8)) x).2 (mpr' hx (by kernel_rfl))) (by kernel_rfl)

theorem ref_editMade_vc (hC : Cons Try.prog [])
    (H : ∀ (text : List UInt8) (e : Int × Int × List UInt8), (editMay (↑text.length : Int) e) →
  ∃ (I : List UInt8 → Int → Prop),
  ∃ (m : List UInt8 → Int → Nat),
    (e.fst = e.fst ∧ e.snd.fst = e.snd.fst ∧ e.snd.snd = e.snd.snd ∧ I [] 0) ∧
      ∀ (out : List UInt8) (i : Int),
        I out i →
          (i ≤ (↑text.length : Int) →
              (i = e.fst → inI64 ((↑out.length : Int) + (↑e.snd.snd.length : Int))) ∧
                (i < (↑text.length : Int) ∧ ¬i < e.fst → inI64 (e.fst + e.snd.fst)) ∧
                  (i < (↑text.length : Int) ∧ (i < e.fst ∨ e.fst + e.snd.fst ≤ i) → inI64 (i + 1)) ∧
                    (i < (↑text.length : Int) ∧ (i < e.fst ∨ e.fst + e.snd.fst ≤ i) → 0 ≤ i) ∧
                      (i < (↑text.length : Int) ∧ (i < e.fst ∨ e.fst + e.snd.fst ≤ i) → i ≤ i + 1) ∧
                        (i < (↑text.length : Int) ∧ (i < e.fst ∨ e.fst + e.snd.fst ≤ i) →
                            i + 1 ≤ (↑text.length : Int)) ∧
                          (i < (↑text.length : Int) ∧ (i < e.fst ∨ e.fst + e.snd.fst ≤ i) →
                              inI64
                                ((↑(iteP (i = e.fst) (out ++ e.snd.snd) out).length : Int) +
                                  (↑(List.drop i.toNat (List.take (i + 1).toNat text)).length : Int))) ∧
                            inI64 (i + 1) ∧
                              e.fst = e.fst ∧
                                e.snd.fst = e.snd.fst ∧
                                  e.snd.snd = e.snd.snd ∧
                                    I
                                        (iteP (i < (↑text.length : Int) ∧ (i < e.fst ∨ e.fst + e.snd.fst ≤ i))
                                          (iteP (i = e.fst) (out ++ e.snd.snd) out ++
                                            List.drop i.toNat (List.take (i + 1).toNat text))
                                          (iteP (i = e.fst) (out ++ e.snd.snd) out))
                                        (i + 1) ∧
                                      m
                                          (iteP (i < (↑text.length : Int) ∧ (i < e.fst ∨ e.fst + e.snd.fst ≤ i))
                                            (iteP (i = e.fst) (out ++ e.snd.snd) out ++
                                              List.drop i.toNat (List.take (i + 1).toNat text))
                                            (iteP (i = e.fst) (out ++ e.snd.snd) out))
                                          (i + 1) <
                                        m out i) ∧
            (¬i ≤ (↑text.length : Int) → out = editMade text e)) :
    Con Try.prog f_ref_editMade ref_editMade_ct := fun x hx =>
  con_eq hC (L := []) (trivial) ref_editMade_ok (ct := ref_editMade_ct) (depth := 0) (by kernel_rfl) x (H (@id (List UInt8 × (Int × Int × List UInt8)) x).1 (@id (List UInt8 × (Int × Int × List UInt8)) x).2 (mpr' hx (by kernel_rfl))) (by kernel_rfl)

theorem ref_EditApplied_vc (hC : Cons Try.prog [(f_ref_EditFault, ref_EditFault_ct), (f_ref_editMade, ref_editMade_ct)])
    (H : ∀ (text : List UInt8) (l : List (Int × Int × List UInt8)), (editsFit l) →
  (60 < (↑l.length : Int) ∨ 600 < (↑text.length : Int) → [] = (editApplied text l).fst ∧ 1 = (editApplied text l).snd) ∧
  (¬(60 < (↑l.length : Int) ∨ 600 < (↑text.length : Int)) →
    ∃ (I : Int → List (List UInt8) → Prop),
      ∃ (m : Int → List (List UInt8) → Nat),
        I 0 [text] ∧
          ∀ (x : Int) (all : List (List UInt8)),
            I x all →
              (x < (↑l.length : Int) →
                  0 ≤ x ∧
                    x < (↑l.length : Int) ∧
                      inI64 ((↑all.length : Int) - 1) ∧
                        0 ≤ (↑all.length : Int) - 1 ∧
                          (↑all.length : Int) - 1 < (↑all.length : Int) ∧
                            (inI64 (↑(gt all ((↑all.length : Int) - 1)).length : Int) ∧
                                editFits ((gt l x).fst, (gt l x).snd.fst, (gt l x).snd.snd)) ∧
                              (editFault (↑(gt all ((↑all.length : Int) - 1)).length : Int)
                                      ((gt l x).fst, (gt l x).snd.fst, (gt l x).snd.snd) ≠
                                    0 →
                                  [] = (editApplied text l).fst ∧
                                    editFault (↑(gt all ((↑all.length : Int) - 1)).length : Int)
                                        ((gt l x).fst, (gt l x).snd.fst, (gt l x).snd.snd) =
                                      (editApplied text l).snd) ∧
                                (¬editFault (↑(gt all ((↑all.length : Int) - 1)).length : Int)
                                        ((gt l x).fst, (gt l x).snd.fst, (gt l x).snd.snd) ≠
                                      0 →
                                  editMay (↑(gt all ((↑all.length : Int) - 1)).length : Int)
                                      ((gt l x).fst, (gt l x).snd.fst, (gt l x).snd.snd) ∧
                                    (all.length + 1) * 16 ≤ 140737488355328 ∧
                                      inI64 (x + 1) ∧
                                        I (x + 1)
                                            (all ++
                                              [editMade (gt all ((↑all.length : Int) - 1))
                                                  ((gt l x).fst, (gt l x).snd.fst, (gt l x).snd.snd)]) ∧
                                          m (x + 1)
                                              (all ++
                                                [editMade (gt all ((↑all.length : Int) - 1))
                                                    ((gt l x).fst, (gt l x).snd.fst, (gt l x).snd.snd)]) <
                                            m x all)) ∧
                (¬x < (↑l.length : Int) → all = (editApplied text l).fst ∧ 0 = (editApplied text l).snd))) :
    Con Try.prog f_ref_EditApplied ref_EditApplied_ct := fun x hx =>
  con_eq hC (L := []) (trivial) ref_EditApplied_ok (ct := ref_EditApplied_ct) (depth := 0) (by kernel_rfl) x (H (@id (List UInt8 × (List (Int × Int × List UInt8))) x).1 (@id (List UInt8 × (List (Int × Int × List UInt8))) x).2 (mpr' hx (by kernel_rfl))) (by kernel_rfl)

theorem ref_EditInvert_vc (hC : Cons Try.prog [(f_ref_EditApplied, ref_EditApplied_ct)])
    (H : ∀ (text : List UInt8) (l : List (Int × Int × List UInt8)), (editsFit l) →
  editsFit l ∧
  ((editApplied text l).snd ≠ 0 → [] = (editInvert text l).fst ∧ (editApplied text l).snd = (editInvert text l).snd) ∧
    (¬(editApplied text l).snd ≠ 0 →
      inI64 ((↑l.length : Int) - 1) ∧
        ∃ (I : Int → List (Int × Int × List UInt8) → Prop),
          ∃ (m : Int → List (Int × Int × List UInt8) → Nat),
            ((editApplied text l).fst = (editApplied text l).fst ∧ I ((↑l.length : Int) - 1) []) ∧
              ∀ (i : Int) (out : List (Int × Int × List UInt8)),
                I i out →
                  (0 ≤ i →
                      0 ≤ i ∧
                        i < (↑l.length : Int) ∧
                          0 ≤ i ∧
                            i < (↑(editApplied text l).fst.length : Int) ∧
                              inI64 ((gt l i).fst + (gt l i).snd.fst) ∧
                                0 ≤ (gt l i).fst ∧
                                  (gt l i).fst ≤ (gt l i).fst + (gt l i).snd.fst ∧
                                    (gt l i).fst + (gt l i).snd.fst ≤ (↑(gt (editApplied text l).fst i).length : Int) ∧
                                      (out.length + 1) * 32 ≤ 140737488355328 ∧
                                        inI64 (i - 1) ∧
                                          (editApplied text l).fst = (editApplied text l).fst ∧
                                            I (i - 1)
                                                (out ++
                                                  [((gt l i).fst, (↑(gt l i).snd.snd.length : Int),
                                                      List.drop (gt l i).fst.toNat
                                                        (List.take ((gt l i).fst + (gt l i).snd.fst).toNat
                                                          (gt (editApplied text l).fst i)))]) ∧
                                              m (i - 1)
                                                  (out ++
                                                    [((gt l i).fst, (↑(gt l i).snd.snd.length : Int),
                                                        List.drop (gt l i).fst.toNat
                                                          (List.take ((gt l i).fst + (gt l i).snd.fst).toNat
                                                            (gt (editApplied text l).fst i)))]) <
                                                m i out) ∧
                    (¬0 ≤ i → out = (editInvert text l).fst ∧ 0 = (editInvert text l).snd))) :
    Con Try.prog f_ref_EditInvert ref_EditInvert_ct := fun x hx =>
  con_eq hC (L := []) (trivial) ref_EditInvert_ok (ct := ref_EditInvert_ct) (depth := 0) (by kernel_rfl) x (H (@id (List UInt8 × (List (Int × Int × List UInt8))) x).1 (@id (List UInt8 × (List (Int × Int × List UInt8))) x).2 (mpr' hx (by kernel_rfl))) (by kernel_rfl)

theorem law_EditInverts_vc (hC : Cons Try.prog [(f_edit_Invert, edit_Invert_ct), (f_ref_EditInvert, ref_EditInvert_ct)])
    (H : ∀ (text : List UInt8) (l : List (Int × Int × List UInt8)), (text.length.le 140737488351232 ∧
  l.length ≤ 140737488351232 ∧
    ∀ (x : Int × Int × List UInt8),
      List.Mem x l →
        (IntKind.i64.min ≤ x.1 ∧ x.1 ≤ IntKind.i64.max) ∧
          (IntKind.i64.min ≤ x.2.1 ∧ x.2.1 ≤ IntKind.i64.max) ∧ x.2.2.length.le 140737488351232) →
  editsFit l ∧
  editsFit l ∧
    ((↑(editInvert text l).fst.length : Int) ≠ (↑(editInvert text l).fst.length : Int) ∨
          (editInvert text l).snd ≠ (editInvert text l).snd →
        false = true) ∧
      (¬((↑(editInvert text l).fst.length : Int) ≠ (↑(editInvert text l).fst.length : Int) ∨
            (editInvert text l).snd ≠ (editInvert text l).snd) →
        ∃ (I : Int → Prop),
          ∃ (m : Int → Nat),
            ((editInvert text l).fst = (editInvert text l).fst ∧
                (editInvert text l).fst = (editInvert text l).fst ∧ I 0) ∧
              ∀ (i : Int),
                I i →
                  (i < (↑(editInvert text l).fst.length : Int) →
                      0 ≤ i ∧
                        i < (↑(editInvert text l).fst.length : Int) ∧
                          0 ≤ i ∧
                            i < (↑(editInvert text l).fst.length : Int) ∧
                              (¬((gt (editInvert text l).fst i).fst = (gt (editInvert text l).fst i).fst ∧
                                      (gt (editInvert text l).fst i).snd.fst = (gt (editInvert text l).fst i).snd.fst ∧
                                        (gt (editInvert text l).fst i).snd.snd =
                                          (gt (editInvert text l).fst i).snd.snd) →
                                  false = true) ∧
                                (¬¬((gt (editInvert text l).fst i).fst = (gt (editInvert text l).fst i).fst ∧
                                        (gt (editInvert text l).fst i).snd.fst =
                                            (gt (editInvert text l).fst i).snd.fst ∧
                                          (gt (editInvert text l).fst i).snd.snd =
                                            (gt (editInvert text l).fst i).snd.snd) →
                                  inI64 (i + 1) ∧
                                    (editInvert text l).fst = (editInvert text l).fst ∧
                                      (editInvert text l).fst = (editInvert text l).fst ∧
                                        I (i + 1) ∧ m (i + 1) < m i)) ∧
                    (¬i < (↑(editInvert text l).fst.length : Int) → true = true))) :
    Con Try.prog f_law_EditInverts law_EditInverts_ct := fun x hx =>
  con_eq hC (L := []) (trivial) law_EditInverts_ok (ct := law_EditInverts_ct) (depth := 0) (by kernel_rfl) x (H (@id (List UInt8 × (List (Int × Int × List UInt8))) x).1 (@id (List UInt8 × (List (Int × Int × List UInt8))) x).2 (mpr' hx (by kernel_rfl))) (by kernel_rfl)

end Go.Proofs.Ytcgggoaefceokaa
