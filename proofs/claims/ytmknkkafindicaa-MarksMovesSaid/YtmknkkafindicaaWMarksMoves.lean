/- The typed conditions of the functions, printed by a program of the claim's author; each gives the contract of its function. Conditions: none. -/
import Derived.Test.YtmknkkafindicaaGMarksMoves
import Derived.Test.YtmknkkafindicaaVpA
import Derived.Test.YtmknkkafindicaaVpB
import Derived.Test.YtmknkkafindicaaVpC
import Derived.Test.YtmknkkafindicaaVpE
import Derived.Test.YtmknkkafindicaaVpJ
import Derived.Test.YtmknkkafindicaaVpP
import Derived.Test.YtmknkkafindicaaBase
set_option linter.unusedVariables false
set_option linter.unusedSimpArgs false
set_option maxRecDepth 100000
namespace Go.Proofs.Ytmknkkafindicaa
open Go.Vc Go.Fu

theorem edit_Check_vc (hC : Cons Try.prog [])
    (H : ∀ (size : Int) (e : Int × Int × List UInt8), (inI64 size ∧ editFits e) →
  (¬((((size < 0 ∨ 600 < size) ∨ e.fst < 0) ∨ size < e.fst) ∨ e.snd.fst < 0) → inI64 (size - e.fst)) ∧
  (((((size < 0 ∨ 600 < size) ∨ e.fst < 0) ∨ size < e.fst) ∨ e.snd.fst < 0) ∨ size - e.fst < e.snd.fst →
      2 = editFault size e) ∧
    (¬(((((size < 0 ∨ 600 < size) ∨ e.fst < 0) ∨ size < e.fst) ∨ e.snd.fst < 0) ∨ size - e.fst < e.snd.fst) →
      inI64 (size - e.snd.fst) ∧
        inI64 (size - e.snd.fst + (↑e.snd.snd.length : Int)) ∧
          (600 < size - e.snd.fst + (↑e.snd.snd.length : Int) → 1 = editFault size e) ∧
            (¬600 < size - e.snd.fst + (↑e.snd.snd.length : Int) → 0 = editFault size e))) :
    Con Try.prog f_edit_Check edit_Check_ct := ⟨edit_Check_ok.able, fun x hx =>
  con_eq hC (L := []) (trivial) edit_Check_ok (ct := edit_Check_ct) (depth := 0) (by kernel_rfl) x (H (@id (Int × (Int × Int × List UInt8)) x).1 (@id (Int × (Int × Int × List UInt8)) x).2 (mpr' hx (by kernel_rfl))) (by kernel_rfl)⟩

theorem edit_Moved_vc (hC : Cons Try.prog [])
    (H : ∀ (e : Int × Int × List UInt8) (at_ : Int) (right : Bool), (movedPre e at_) →
  (at_ < e.fst → at_ = moved e at_ right) ∧
  (¬at_ < e.fst →
    (¬(e.snd.fst = 0 ∧ e.fst < at_) → 0 < e.snd.fst → inI64 (e.fst + e.snd.fst)) ∧
      (e.snd.fst = 0 ∧ e.fst < at_ ∨ 0 < e.snd.fst ∧ e.fst + e.snd.fst ≤ at_ →
          inI64 (at_ + (↑e.snd.snd.length : Int)) ∧
            inI64 (at_ + (↑e.snd.snd.length : Int) - e.snd.fst) ∧
              at_ + (↑e.snd.snd.length : Int) - e.snd.fst = moved e at_ right) ∧
        (¬(e.snd.fst = 0 ∧ e.fst < at_ ∨ 0 < e.snd.fst ∧ e.fst + e.snd.fst ≤ at_) →
          (right = true →
              inI64 (e.fst + (↑e.snd.snd.length : Int)) ∧ e.fst + (↑e.snd.snd.length : Int) = moved e at_ right) ∧
            (¬right = true → e.fst = moved e at_ right)))) :
    Con Try.prog f_edit_Moved edit_Moved_ct := ⟨edit_Moved_ok.able, fun x hx =>
  con_eq hC (L := []) (trivial) edit_Moved_ok (ct := edit_Moved_ct) (depth := 0) (by kernel_rfl) x (H (@id ((Int × Int × List UInt8) × Int × Bool) x).1 (@id ((Int × Int × List UInt8) × Int × Bool) x).2.1 (@id ((Int × Int × List UInt8) × Int × Bool) x).2.2 (mpr' hx (by kernel_rfl))) (by kernel_rfl)⟩

theorem slices_Clone___api_Mark_api_Mark__vc (hC : Cons Try.prog [])
    (H : ∀ (s : List (Int × Bool)), (fitM s) →
  ∀ (isnil : Prop),
  (isnil → (↑s.length : Int) = 0) → (isnil → [] = s) ∧ (¬isnil → (0 + s.length) * 16 ≤ 140737488355328 ∧ [] ++ s = s)) :
    Con Try.prog f_slices_Clone___api_Mark_api_Mark_ slices_Clone___api_Mark_api_Mark__ct := ⟨slices_Clone___api_Mark_api_Mark__ok.able, fun x hx =>
  con_eq hC (L := []) (trivial) slices_Clone___api_Mark_api_Mark__ok (ct := slices_Clone___api_Mark_api_Mark__ct) (depth := 0) (by kernel_rfl) x (H (@id ((List (Int × Bool))) x) (mpr' hx (by kernel_rfl))) (by kernel_rfl)⟩

theorem marks_Move_vc (hC : Cons Try.prog [(f_edit_Check, edit_Check_ct), (f_edit_Moved, edit_Moved_ct), (f_slices_Clone___api_Mark_api_Mark_, slices_Clone___api_Mark_api_Mark__ct)])
    (H : ∀ (size : Int) (ms : List (Int × Bool)) (l : List (Int × Int × List UInt8)), (inI64 size ∧ editsFit l) →
  ((60 : Int) < (↑ms.length : Int) ∨ (60 : Int) < (↑l.length : Int) →
    [] = (marksMove size ms l).fst ∧ (1 : Int) = (marksMove size ms l).snd) ∧
  (¬((60 : Int) < (↑ms.length : Int) ∨ (60 : Int) < (↑l.length : Int)) →
    ∃ (I : Int → Int → Prop),
      ∃ (m : Int → Int → Nat),
        I (0 : Int) size ∧
          ∀ (x f : Int),
            I x f →
              (x < (↑ms.length : Int) →
                  (0 : Int) ≤ x ∧
                    x < (↑ms.length : Int) ∧
                      ((gt ms x).fst < (0 : Int) ∨ f < (gt ms x).fst →
                          ((0 : Int) ≤ x → [] = (marksMove size ms l).fst ∧ (2 : Int) = (marksMove size ms l).snd) ∧
                            (¬(0 : Int) ≤ x →
                              (inI64 f ∧ editFits ((0 : Int), (0 : Int), [])) ∧
                                (editFault f ((0 : Int), (0 : Int), []) ≠ (0 : Int) →
                                    [] = (marksMove size ms l).fst ∧
                                      editFault f ((0 : Int), (0 : Int), []) = (marksMove size ms l).snd) ∧
                                  (¬editFault f ((0 : Int), (0 : Int), []) ≠ (0 : Int) →
                                    fitM ms ∧
                                      ∃ (I : Int → Int → List (Int × Bool) → Prop),
                                        ∃ (m : Int → Int → List (Int × Bool) → Nat),
                                          ((gt ms x).fst = (gt ms x).fst ∧
                                              (gt ms x).snd = (gt ms x).snd ∧ I (0 : Int) f ms) ∧
                                            ∀ (x_1 size_1 : Int) (out : List (Int × Bool)),
                                              I x_1 size_1 out →
                                                (x_1 < (↑l.length : Int) →
                                                    (0 : Int) ≤ x_1 ∧
                                                      x_1 < (↑l.length : Int) ∧
                                                        (inI64 size_1 ∧
                                                            editFits
                                                              ((gt l x_1).fst, (gt l x_1).snd.fst,
                                                                (gt l x_1).snd.snd)) ∧
                                                          (editFault size_1
                                                                  ((gt l x_1).fst, (gt l x_1).snd.fst,
                                                                    (gt l x_1).snd.snd) ≠
                                                                (0 : Int) →
                                                              [] = (marksMove size ms l).fst ∧
                                                                editFault size_1
                                                                    ((gt l x_1).fst, (gt l x_1).snd.fst,
                                                                      (gt l x_1).snd.snd) =
                                                                  (marksMove size ms l).snd) ∧
                                                            (¬editFault size_1
                                                                    ((gt l x_1).fst, (gt l x_1).snd.fst,
                                                                      (gt l x_1).snd.snd) ≠
                                                                  (0 : Int) →
                                                              inI64
                                                                  ((↑(gt l x_1).snd.snd.length : Int) -
                                                                    (gt l x_1).snd.fst) ∧
                                                                inI64
                                                                    (size_1 +
                                                                      ((↑(gt l x_1).snd.snd.length : Int) -
                                                                        (gt l x_1).snd.fst)) ∧
                                                                  ∃ (I_1 : Int → List (Int × Bool) → Prop),
                                                                    ∃ (m_1 : Int → List (Int × Bool) → Nat),
                                                                      (size_1 +
                                                                              ((↑(gt l x_1).snd.snd.length : Int) -
                                                                                (gt l x_1).snd.fst) =
                                                                            size_1 +
                                                                              ((↑(gt l x_1).snd.snd.length : Int) -
                                                                                (gt l x_1).snd.fst) ∧
                                                                          (gt ms x).fst = (gt ms x).fst ∧
                                                                            (gt ms x).snd = (gt ms x).snd ∧
                                                                              (gt l x_1).fst = (gt l x_1).fst ∧
                                                                                (gt l x_1).snd.fst =
                                                                                    (gt l x_1).snd.fst ∧
                                                                                  (gt l x_1).snd.snd =
                                                                                      (gt l x_1).snd.snd ∧
                                                                                    I_1 (0 : Int) out) ∧
                                                                        ∀ (x_2 : Int) (out_1 : List (Int × Bool)),
                                                                          I_1 x_2 out_1 →
                                                                            (x_2 < (↑out.length : Int) →
                                                                                (0 : Int) ≤ x_2 ∧
                                                                                  x_2 < (↑out_1.length : Int) ∧
                                                                                    (0 : Int) ≤ x_2 ∧
                                                                                      x_2 < (↑out_1.length : Int) ∧
                                                                                        movedPre
                                                                                            ((gt l x_1).fst,
                                                                                              (gt l x_1).snd.fst,
                                                                                              (gt l x_1).snd.snd)
                                                                                            (gt out_1 x_2).fst ∧
                                                                                          (0 : Int) ≤ x_2 ∧
                                                                                            x_2 <
                                                                                                (↑out_1.length : Int) ∧
                                                                                              inI64 (x_2 + (1 : Int)) ∧
                                                                                                size_1 +
                                                                                                      ((↑(gt l
                                                                                                                    x_1).snd.snd.length :
                                                                                                          Int) -
                                                                                                        (gt l
                                                                                                              x_1).snd.fst) =
                                                                                                    size_1 +
                                                                                                      ((↑(gt l
                                                                                                                    x_1).snd.snd.length :
                                                                                                          Int) -
                                                                                                        (gt l
                                                                                                              x_1).snd.fst) ∧
                                                                                                  (gt ms x).fst =
                                                                                                      (gt ms x).fst ∧
                                                                                                    (gt ms x).snd =
                                                                                                        (gt ms x).snd ∧
                                                                                                      (gt l x_1).fst =
                                                                                                          (gt l
                                                                                                              x_1).fst ∧
                                                                                                        (gt l
                                                                                                                  x_1).snd.fst =
                                                                                                            (gt l
                                                                                                                  x_1).snd.fst ∧
                                                                                                          (gt l
                                                                                                                    x_1).snd.snd =
                                                                                                              (gt l
                                                                                                                    x_1).snd.snd ∧
                                                                                                            I_1
                                                                                                                (x_2 +
                                                                                                                  (1 :
                                                                                                                    Int))
                                                                                                                (out_1.set
                                                                                                                  x_2.toNat
                                                                                                                  (moved
                                                                                                                      ((gt
                                                                                                                            l
                                                                                                                            x_1).fst,
                                                                                                                        (gt
                                                                                                                              l
                                                                                                                              x_1).snd.fst,
                                                                                                                        (gt
                                                                                                                              l
                                                                                                                              x_1).snd.snd)
                                                                                                                      (gt
                                                                                                                          out_1
                                                                                                                          x_2).fst
                                                                                                                      (gt
                                                                                                                          out_1
                                                                                                                          x_2).snd,
                                                                                                                    (gt
                                                                                                                        out_1
                                                                                                                        x_2).snd)) ∧
                                                                                                              m_1
                                                                                                                  (x_2 +
                                                                                                                    (1 :
                                                                                                                      Int))
                                                                                                                  (out_1.set
                                                                                                                    x_2.toNat
                                                                                                                    (moved
                                                                                                                        ((gt
                                                                                                                              l
                                                                                                                              x_1).fst,
                                                                                                                          (gt
                                                                                                                                l
                                                                                                                                x_1).snd.fst,
                                                                                                                          (gt
                                                                                                                                l
                                                                                                                                x_1).snd.snd)
                                                                                                                        (gt
                                                                                                                            out_1
                                                                                                                            x_2).fst
                                                                                                                        (gt
                                                                                                                            out_1
                                                                                                                            x_2).snd,
                                                                                                                      (gt
                                                                                                                          out_1
                                                                                                                          x_2).snd)) <
                                                                                                                m_1 x_2
                                                                                                                  out_1) ∧
                                                                              (¬x_2 < (↑out.length : Int) →
                                                                                inI64 (x_1 + (1 : Int)) ∧
                                                                                  (gt ms x).fst = (gt ms x).fst ∧
                                                                                    (gt ms x).snd = (gt ms x).snd ∧
                                                                                      I (x_1 + (1 : Int))
                                                                                          (size_1 +
                                                                                            ((↑(gt l
                                                                                                          x_1).snd.snd.length :
                                                                                                Int) -
                                                                                              (gt l x_1).snd.fst))
                                                                                          out_1 ∧
                                                                                        m (x_1 + (1 : Int))
                                                                                            (size_1 +
                                                                                              ((↑(gt l
                                                                                                            x_1).snd.snd.length :
                                                                                                  Int) -
                                                                                                (gt l x_1).snd.fst))
                                                                                            out_1 <
                                                                                          m x_1 size_1 out))) ∧
                                                  (¬x_1 < (↑l.length : Int) →
                                                    out = (marksMove size ms l).fst ∧
                                                      (0 : Int) = (marksMove size ms l).snd)))) ∧
                        (¬((gt ms x).fst < (0 : Int) ∨ f < (gt ms x).fst) →
                          inI64 (x + (1 : Int)) ∧ I (x + (1 : Int)) f ∧ m (x + (1 : Int)) f < m x f)) ∧
                (¬x < (↑ms.length : Int) →
                  ((0 : Int) ≤ (-1 : Int) → [] = (marksMove size ms l).fst ∧ (2 : Int) = (marksMove size ms l).snd) ∧
                    (¬(0 : Int) ≤ (-1 : Int) →
                      (inI64 f ∧ editFits ((0 : Int), (0 : Int), [])) ∧
                        (editFault f ((0 : Int), (0 : Int), []) ≠ (0 : Int) →
                            [] = (marksMove size ms l).fst ∧
                              editFault f ((0 : Int), (0 : Int), []) = (marksMove size ms l).snd) ∧
                          (¬editFault f ((0 : Int), (0 : Int), []) ≠ (0 : Int) →
                            fitM ms ∧
                              ∃ (I : Int → Int → List (Int × Bool) → Prop),
                                ∃ (m : Int → Int → List (Int × Bool) → Nat),
                                  I (0 : Int) f ms ∧
                                    ∀ (x size_1 : Int) (out : List (Int × Bool)),
                                      I x size_1 out →
                                        (x < (↑l.length : Int) →
                                            (0 : Int) ≤ x ∧
                                              x < (↑l.length : Int) ∧
                                                (inI64 size_1 ∧
                                                    editFits ((gt l x).fst, (gt l x).snd.fst, (gt l x).snd.snd)) ∧
                                                  (editFault size_1 ((gt l x).fst, (gt l x).snd.fst, (gt l x).snd.snd) ≠
                                                        (0 : Int) →
                                                      [] = (marksMove size ms l).fst ∧
                                                        editFault size_1
                                                            ((gt l x).fst, (gt l x).snd.fst, (gt l x).snd.snd) =
                                                          (marksMove size ms l).snd) ∧
                                                    (¬editFault size_1
                                                            ((gt l x).fst, (gt l x).snd.fst, (gt l x).snd.snd) ≠
                                                          (0 : Int) →
                                                      inI64 ((↑(gt l x).snd.snd.length : Int) - (gt l x).snd.fst) ∧
                                                        inI64
                                                            (size_1 +
                                                              ((↑(gt l x).snd.snd.length : Int) - (gt l x).snd.fst)) ∧
                                                          ∃ (I_1 : Int → List (Int × Bool) → Prop),
                                                            ∃ (m_1 : Int → List (Int × Bool) → Nat),
                                                              (size_1 +
                                                                      ((↑(gt l x).snd.snd.length : Int) -
                                                                        (gt l x).snd.fst) =
                                                                    size_1 +
                                                                      ((↑(gt l x).snd.snd.length : Int) -
                                                                        (gt l x).snd.fst) ∧
                                                                  (gt l x).fst = (gt l x).fst ∧
                                                                    (gt l x).snd.fst = (gt l x).snd.fst ∧
                                                                      (gt l x).snd.snd = (gt l x).snd.snd ∧
                                                                        I_1 (0 : Int) out) ∧
                                                                ∀ (x_1 : Int) (out_1 : List (Int × Bool)),
                                                                  I_1 x_1 out_1 →
                                                                    (x_1 < (↑out.length : Int) →
                                                                        (0 : Int) ≤ x_1 ∧
                                                                          x_1 < (↑out_1.length : Int) ∧
                                                                            (0 : Int) ≤ x_1 ∧
                                                                              x_1 < (↑out_1.length : Int) ∧
                                                                                movedPre
                                                                                    ((gt l x).fst, (gt l x).snd.fst,
                                                                                      (gt l x).snd.snd)
                                                                                    (gt out_1 x_1).fst ∧
                                                                                  (0 : Int) ≤ x_1 ∧
                                                                                    x_1 < (↑out_1.length : Int) ∧
                                                                                      inI64 (x_1 + (1 : Int)) ∧
                                                                                        size_1 +
                                                                                              ((↑(gt l
                                                                                                            x).snd.snd.length :
                                                                                                  Int) -
                                                                                                (gt l x).snd.fst) =
                                                                                            size_1 +
                                                                                              ((↑(gt l
                                                                                                            x).snd.snd.length :
                                                                                                  Int) -
                                                                                                (gt l x).snd.fst) ∧
                                                                                          (gt l x).fst = (gt l x).fst ∧
                                                                                            (gt l x).snd.fst =
                                                                                                (gt l x).snd.fst ∧
                                                                                              (gt l x).snd.snd =
                                                                                                  (gt l x).snd.snd ∧
                                                                                                I_1 (x_1 + (1 : Int))
                                                                                                    (out_1.set x_1.toNat
                                                                                                      (moved
                                                                                                          ((gt l x).fst,
                                                                                                            (gt l
                                                                                                                  x).snd.fst,
                                                                                                            (gt l
                                                                                                                  x).snd.snd)
                                                                                                          (gt out_1
                                                                                                              x_1).fst
                                                                                                          (gt out_1
                                                                                                              x_1).snd,
                                                                                                        (gt out_1
                                                                                                            x_1).snd)) ∧
                                                                                                  m_1 (x_1 + (1 : Int))
                                                                                                      (out_1.set
                                                                                                        x_1.toNat
                                                                                                        (moved
                                                                                                            ((gt l
                                                                                                                  x).fst,
                                                                                                              (gt l
                                                                                                                    x).snd.fst,
                                                                                                              (gt l
                                                                                                                    x).snd.snd)
                                                                                                            (gt out_1
                                                                                                                x_1).fst
                                                                                                            (gt out_1
                                                                                                                x_1).snd,
                                                                                                          (gt out_1
                                                                                                              x_1).snd)) <
                                                                                                    m_1 x_1 out_1) ∧
                                                                      (¬x_1 < (↑out.length : Int) →
                                                                        inI64 (x + (1 : Int)) ∧
                                                                          I (x + (1 : Int))
                                                                              (size_1 +
                                                                                ((↑(gt l x).snd.snd.length : Int) -
                                                                                  (gt l x).snd.fst))
                                                                              out_1 ∧
                                                                            m (x + (1 : Int))
                                                                                (size_1 +
                                                                                  ((↑(gt l x).snd.snd.length : Int) -
                                                                                    (gt l x).snd.fst))
                                                                                out_1 <
                                                                              m x size_1 out))) ∧
                                          (¬x < (↑l.length : Int) →
                                            out = (marksMove size ms l).fst ∧ (0 : Int) = (marksMove size ms l).snd)))))) :
    Con Try.prog f_marks_Move marks_Move_ct := ⟨marks_Move_ok.able, fun x hx =>
  con_eq hC (L := [(f_slices_ContainsFunc___api_Mark_api_Mark_, slices_ContainsFunc___api_Mark_api_Mark__fi), (f_slices_IndexFunc___api_Mark_api_Mark_, slices_IndexFunc___api_Mark_api_Mark__fi), (f_marks_Move_1, marks_Move_1_fi)]) (⟨slices_ContainsFunc___api_Mark_api_Mark__ok, slices_IndexFunc___api_Mark_api_Mark__ok, marks_Move_1_ok, trivial⟩) marks_Move_ok (ct := marks_Move_ct) (depth := 4) (by kernel_rfl) x (H (@id (Int × (List (Int × Bool)) × (List (Int × Int × List UInt8))) x).1 (@id (Int × (List (Int × Bool)) × (List (Int × Int × List UInt8))) x).2.1 (@id (Int × (List (Int × Bool)) × (List (Int × Int × List UInt8))) x).2.2 (mpr' hx (by kernel_rfl))) (by kernel_rfl)⟩

theorem ref_EditFault_vc (hC : Cons Try.prog [])
    (H : ∀ (size : Int) (e : Int × Int × List UInt8), (inI64 size ∧ editFits e) →
  (¬(((((size < 0 ∨ 600 < size) ∨ e.fst < 0) ∨ e.snd.fst < 0) ∨ size < e.fst) ∨ size < e.snd.fst) →
    inI64 (e.fst + e.snd.fst)) ∧
  ((((((size < 0 ∨ 600 < size) ∨ e.fst < 0) ∨ e.snd.fst < 0) ∨ size < e.fst) ∨ size < e.snd.fst) ∨
        size < e.fst + e.snd.fst →
      2 = editFault size e) ∧
    (¬((((((size < 0 ∨ 600 < size) ∨ e.fst < 0) ∨ e.snd.fst < 0) ∨ size < e.fst) ∨ size < e.snd.fst) ∨
          size < e.fst + e.snd.fst) →
      inI64 (size + (↑e.snd.snd.length : Int)) ∧
        inI64 (size + (↑e.snd.snd.length : Int) - e.snd.fst) ∧
          (600 < size + (↑e.snd.snd.length : Int) - e.snd.fst → 1 = editFault size e) ∧
            (¬600 < size + (↑e.snd.snd.length : Int) - e.snd.fst → 0 = editFault size e))) :
    Con Try.prog f_ref_EditFault ref_EditFault_ct := ⟨ref_EditFault_ok.able, fun x hx =>
  con_eq hC (L := []) (trivial) ref_EditFault_ok (ct := ref_EditFault_ct) (depth := 0) (by kernel_rfl) x (H (@id (Int × (Int × Int × List UInt8)) x).1 (@id (Int × (Int × Int × List UInt8)) x).2 (mpr' hx (by kernel_rfl))) (by kernel_rfl)⟩

theorem ref_editPlace_vc (hC : Cons Try.prog [])
    (H : ∀ (e : Int × Int × List UInt8) (at_ : Int) (right : Bool), (movedPre e at_) →
  (at_ < e.fst → at_ = moved e at_ right) ∧
  (¬at_ < e.fst →
    inI64 (e.fst + e.snd.fst) ∧
      (e.fst + e.snd.fst ≤ at_ ∧ ¬(e.snd.fst = 0 ∧ at_ = e.fst) →
          inI64 (at_ - e.snd.fst) ∧
            inI64 (at_ - e.snd.fst + (↑e.snd.snd.length : Int)) ∧
              at_ - e.snd.fst + (↑e.snd.snd.length : Int) = moved e at_ right) ∧
        (¬(e.fst + e.snd.fst ≤ at_ ∧ ¬(e.snd.fst = 0 ∧ at_ = e.fst)) →
          (right = true →
              inI64 (e.fst + (↑e.snd.snd.length : Int)) ∧ e.fst + (↑e.snd.snd.length : Int) = moved e at_ right) ∧
            (¬right = true → e.fst = moved e at_ right)))) :
    Con Try.prog f_ref_editPlace ref_editPlace_ct := ⟨ref_editPlace_ok.able, fun x hx =>
  con_eq hC (L := []) (trivial) ref_editPlace_ok (ct := ref_editPlace_ct) (depth := 0) (by kernel_rfl) x (H (@id ((Int × Int × List UInt8) × Int × Bool) x).1 (@id ((Int × Int × List UInt8) × Int × Bool) x).2.1 (@id ((Int × Int × List UInt8) × Int × Bool) x).2.2 (mpr' hx (by kernel_rfl))) (by kernel_rfl)⟩

theorem ref_MarksMoved_vc (hC : Cons Try.prog [(f_ref_EditFault, ref_EditFault_ct), (f_ref_editPlace, ref_editPlace_ct)])
    (H : ∀ (size : Int) (ms : List (Int × Bool)) (l : List (Int × Int × List UInt8)), (inI64 size ∧ editsFit l) →
  (60 < (↑ms.length : Int) ∨ 60 < (↑l.length : Int) → [] = (marksMove size ms l).fst ∧ 1 = (marksMove size ms l).snd) ∧
  (¬(60 < (↑ms.length : Int) ∨ 60 < (↑l.length : Int)) →
    ∃ (I : Int → Prop),
      ∃ (m : Int → Nat),
        I 0 ∧
          ∀ (x : Int),
            I x →
              (x < (↑ms.length : Int) →
                  0 ≤ x ∧
                    x < (↑ms.length : Int) ∧
                      ((gt ms x).fst < 0 ∨ size < (gt ms x).fst →
                          [] = (marksMove size ms l).fst ∧ 2 = (marksMove size ms l).snd) ∧
                        (¬((gt ms x).fst < 0 ∨ size < (gt ms x).fst) → inI64 (x + 1) ∧ I (x + 1) ∧ m (x + 1) < m x)) ∧
                (¬x < (↑ms.length : Int) →
                  (size < 0 ∨ 600 < size → [] = (marksMove size ms l).fst ∧ 2 = (marksMove size ms l).snd) ∧
                    (¬(size < 0 ∨ 600 < size) →
                      ∃ (I : Int → Int → Prop),
                        ∃ (m : Int → Int → Nat),
                          I size 0 ∧
                            ∀ (size_1 x : Int),
                              I size_1 x →
                                (x < (↑l.length : Int) →
                                    0 ≤ x ∧
                                      x < (↑l.length : Int) ∧
                                        (inI64 size_1 ∧ editFits ((gt l x).fst, (gt l x).snd.fst, (gt l x).snd.snd)) ∧
                                          (editFault size_1 ((gt l x).fst, (gt l x).snd.fst, (gt l x).snd.snd) ≠ 0 →
                                              [] = (marksMove size ms l).fst ∧
                                                editFault size_1 ((gt l x).fst, (gt l x).snd.fst, (gt l x).snd.snd) =
                                                  (marksMove size ms l).snd) ∧
                                            (¬editFault size_1 ((gt l x).fst, (gt l x).snd.fst, (gt l x).snd.snd) ≠ 0 →
                                              inI64 (size_1 - (gt l x).snd.fst) ∧
                                                inI64 (size_1 - (gt l x).snd.fst + (↑(gt l x).snd.snd.length : Int)) ∧
                                                  inI64 (x + 1) ∧
                                                    I (size_1 - (gt l x).snd.fst + (↑(gt l x).snd.snd.length : Int))
                                                        (x + 1) ∧
                                                      m (size_1 - (gt l x).snd.fst + (↑(gt l x).snd.snd.length : Int))
                                                          (x + 1) <
                                                        m size_1 x)) ∧
                                  (¬x < (↑l.length : Int) →
                                    ∃ (I : Int → List (Int × Bool) → Prop),
                                      ∃ (m : Int → List (Int × Bool) → Nat),
                                        I 0 [] ∧
                                          ∀ (x : Int) (out : List (Int × Bool)),
                                            I x out →
                                              (x < (↑ms.length : Int) →
                                                  0 ≤ x ∧
                                                    x < (↑ms.length : Int) ∧
                                                      ∃ (I_1 : Int → Int → Bool → Prop),
                                                        ∃ (m_1 : Int → Int → Bool → Nat),
                                                          (out = out ∧ I_1 0 (gt ms x).fst (gt ms x).snd) ∧
                                                            ∀ (x_1 m_2 : Int) (m_3 : Bool),
                                                              I_1 x_1 m_2 m_3 →
                                                                (x_1 < (↑l.length : Int) →
                                                                    0 ≤ x_1 ∧
                                                                      x_1 < (↑l.length : Int) ∧
                                                                        movedPre
                                                                            ((gt l x_1).fst, (gt l x_1).snd.fst,
                                                                              (gt l x_1).snd.snd)
                                                                            m_2 ∧
                                                                          inI64 (x_1 + 1) ∧
                                                                            out = out ∧
                                                                              I_1 (x_1 + 1)
                                                                                  (moved
                                                                                    ((gt l x_1).fst, (gt l x_1).snd.fst,
                                                                                      (gt l x_1).snd.snd)
                                                                                    m_2 m_3)
                                                                                  m_3 ∧
                                                                                m_1 (x_1 + 1)
                                                                                    (moved
                                                                                      ((gt l x_1).fst,
                                                                                        (gt l x_1).snd.fst,
                                                                                        (gt l x_1).snd.snd)
                                                                                      m_2 m_3)
                                                                                    m_3 <
                                                                                  m_1 x_1 m_2 m_3) ∧
                                                                  (¬x_1 < (↑l.length : Int) →
                                                                    (out.length + 1) * 16 ≤ 140737488355328 ∧
                                                                      inI64 (x + 1) ∧
                                                                        I (x + 1) (out ++ [(m_2, m_3)]) ∧
                                                                          m (x + 1) (out ++ [(m_2, m_3)]) < m x out)) ∧
                                                (¬x < (↑ms.length : Int) →
                                                  out = (marksMove size ms l).fst ∧ 0 = (marksMove size ms l).snd)))))) :
    Con Try.prog f_ref_MarksMoved ref_MarksMoved_ct := ⟨ref_MarksMoved_ok.able, fun x hx =>
  con_eq hC (L := []) (trivial) ref_MarksMoved_ok (ct := ref_MarksMoved_ct) (depth := 0) (by kernel_rfl) x (H (@id (Int × (List (Int × Bool)) × (List (Int × Int × List UInt8))) x).1 (@id (Int × (List (Int × Bool)) × (List (Int × Int × List UInt8))) x).2.1 (@id (Int × (List (Int × Bool)) × (List (Int × Int × List UInt8))) x).2.2 (mpr' hx (by kernel_rfl))) (by kernel_rfl)⟩

theorem law_MarksMoves_vc (hC : Cons Try.prog [(f_marks_Move, marks_Move_ct), (f_ref_MarksMoved, ref_MarksMoved_ct)])
    (H : ∀ (size : Int) (ms : List (Int × Bool)) (l : List (Int × Int × List UInt8)), ((IntKind.i64.min ≤ size ∧ size ≤ IntKind.i64.max) ∧
  (ms.length ≤ 140737488351232 ∧
      ∀ (x : Int × Bool), List.Mem x ms → (IntKind.i64.min ≤ x.1 ∧ x.1 ≤ IntKind.i64.max) ∧ True) ∧
    l.length ≤ 140737488351232 ∧
      ∀ (x : Int × Int × List UInt8),
        List.Mem x l →
          (IntKind.i64.min ≤ x.1 ∧ x.1 ≤ IntKind.i64.max) ∧
            (IntKind.i64.min ≤ x.2.1 ∧ x.2.1 ≤ IntKind.i64.max) ∧ x.2.2.length.le 140737488351232) →
  (inI64 size ∧ editsFit l) ∧
  (inI64 size ∧ editsFit l) ∧
    ((↑(marksMove size ms l).fst.length : Int) ≠ (↑(marksMove size ms l).fst.length : Int) ∨
          (marksMove size ms l).snd ≠ (marksMove size ms l).snd →
        false = true) ∧
      (¬((↑(marksMove size ms l).fst.length : Int) ≠ (↑(marksMove size ms l).fst.length : Int) ∨
            (marksMove size ms l).snd ≠ (marksMove size ms l).snd) →
        ∃ (I : Int → Prop),
          ∃ (m : Int → Nat),
            ((marksMove size ms l).fst = (marksMove size ms l).fst ∧
                (marksMove size ms l).fst = (marksMove size ms l).fst ∧ I 0) ∧
              ∀ (i : Int),
                I i →
                  (i < (↑(marksMove size ms l).fst.length : Int) →
                      0 ≤ i ∧
                        i < (↑(marksMove size ms l).fst.length : Int) ∧
                          0 ≤ i ∧
                            i < (↑(marksMove size ms l).fst.length : Int) ∧
                              (¬((gt (marksMove size ms l).fst i).fst = (gt (marksMove size ms l).fst i).fst ∧
                                      ((gt (marksMove size ms l).fst i).snd = true ↔
                                        (gt (marksMove size ms l).fst i).snd = true)) →
                                  false = true) ∧
                                (¬¬((gt (marksMove size ms l).fst i).fst = (gt (marksMove size ms l).fst i).fst ∧
                                        ((gt (marksMove size ms l).fst i).snd = true ↔
                                          (gt (marksMove size ms l).fst i).snd = true)) →
                                  inI64 (i + 1) ∧
                                    (marksMove size ms l).fst = (marksMove size ms l).fst ∧
                                      (marksMove size ms l).fst = (marksMove size ms l).fst ∧
                                        I (i + 1) ∧ m (i + 1) < m i)) ∧
                    (¬i < (↑(marksMove size ms l).fst.length : Int) → true = true))) :
    Con Try.prog f_law_MarksMoves law_MarksMoves_ct := ⟨law_MarksMoves_ok.able, fun x hx =>
  con_eq hC (L := []) (trivial) law_MarksMoves_ok (ct := law_MarksMoves_ct) (depth := 0) (by kernel_rfl) x (H (@id (Int × (List (Int × Bool)) × (List (Int × Int × List UInt8))) x).1 (@id (Int × (List (Int × Bool)) × (List (Int × Int × List UInt8))) x).2.1 (@id (Int × (List (Int × Bool)) × (List (Int × Int × List UInt8))) x).2.2 (mpr' hx (by kernel_rfl))) (by kernel_rfl)⟩

end Go.Proofs.Ytmknkkafindicaa
