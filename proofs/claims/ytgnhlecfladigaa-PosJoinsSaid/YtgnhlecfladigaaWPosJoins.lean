/- The typed conditions of the functions, printed by a program of the claim's author; each gives the contract of its function. Conditions: none. -/
import Derived.Test.YtgnhlecfladigaaGPosJoins
import Derived.Test.YtgnhlecfladigaaVpA
import Derived.Test.YtgnhlecfladigaaVpB
import Derived.Test.YtgnhlecfladigaaBase
set_option linter.unusedVariables false
set_option linter.unusedSimpArgs false
set_option maxRecDepth 100000
namespace Go.Proofs.Ytgnhlecfladigaa
open Go.Vc Go.Fu

theorem pos_May_vc (hC : Cons Try.prog [])
    (H : ∀ (p : Int × Int × Int), (True) →
  (((p.fst < 0 ∨ p.snd.fst < 0) ∨ p.snd.snd < 0) ∨ 1099511627776 < max (max p.fst p.snd.fst) p.snd.snd →
    false = bo (posOk p)) ∧
  (¬(((p.fst < 0 ∨ p.snd.fst < 0) ∨ p.snd.snd < 0) ∨ 1099511627776 < max (max p.fst p.snd.fst) p.snd.snd) →
    inI64 (p.snd.fst + p.snd.snd) ∧
      bo (p.snd.fst + p.snd.snd ≤ p.fst ∧ (0 < p.snd.fst ∨ p.snd.snd = p.fst)) = bo (posOk p))) :
    Con Try.prog f_pos_May pos_May_ct := fun x hx =>
  con_eq hC (L := []) (trivial) pos_May_ok (ct := pos_May_ct) (depth := 0) (by kernel_rfl) x (H (@id ((Int × Int × Int)) x) (mpr' hx (by kernel_rfl))) (by kernel_rfl)

theorem pos_Join_vc (hC : Cons Try.prog [(f_pos_May, pos_May_ct)])
    (H : ∀ (a : Int × Int × Int) (b : Int × Int × Int), (True) →
  True ∧
  (¬¬bo (posOk (a.fst, a.snd.fst, a.snd.snd)) = true → True) ∧
    (¬bo (posOk (a.fst, a.snd.fst, a.snd.snd)) = true ∨ ¬bo (posOk (b.fst, b.snd.fst, b.snd.snd)) = true →
        (0, 0, 0) = (posJoin a b).fst ∧ 4 = (posJoin a b).snd) ∧
      (¬(¬bo (posOk (a.fst, a.snd.fst, a.snd.snd)) = true ∨ ¬bo (posOk (b.fst, b.snd.fst, b.snd.snd)) = true) →
        inI64 (a.fst + b.fst) ∧
          inI64 (a.snd.fst + b.snd.fst) ∧
            (b.snd.fst = 0 →
                inI64 (b.snd.snd + a.snd.snd) ∧
                  True ∧
                    (¬bo (posOk (a.fst + b.fst, a.snd.fst + b.snd.fst, b.snd.snd + a.snd.snd)) = true →
                        (0, 0, 0) = (posJoin a b).fst ∧ 4 = (posJoin a b).snd) ∧
                      (¬¬bo (posOk (a.fst + b.fst, a.snd.fst + b.snd.fst, b.snd.snd + a.snd.snd)) = true →
                        (a.fst + b.fst, a.snd.fst + b.snd.fst, b.snd.snd + a.snd.snd) = (posJoin a b).fst ∧
                          0 = (posJoin a b).snd)) ∧
              (¬b.snd.fst = 0 →
                True ∧
                  (¬bo (posOk (a.fst + b.fst, a.snd.fst + b.snd.fst, b.snd.snd)) = true →
                      (0, 0, 0) = (posJoin a b).fst ∧ 4 = (posJoin a b).snd) ∧
                    (¬¬bo (posOk (a.fst + b.fst, a.snd.fst + b.snd.fst, b.snd.snd)) = true →
                      (a.fst + b.fst, a.snd.fst + b.snd.fst, b.snd.snd) = (posJoin a b).fst ∧ 0 = (posJoin a b).snd)))) :
    Con Try.prog f_pos_Join pos_Join_ct := fun x hx =>
  con_eq hC (L := []) (trivial) pos_Join_ok (ct := pos_Join_ct) (depth := 0) (by kernel_rfl) x (H (@id ((Int × Int × Int) × (Int × Int × Int)) x).1 (@id ((Int × Int × Int) × (Int × Int × Int)) x).2 (mpr' hx (by kernel_rfl))) (by kernel_rfl)

theorem ref_PosMay_vc (hC : Cons Try.prog [])
    (H : ∀ (p : Int × Int × Int), (True) →
  ∃ (I : Int → Prop),
  ∃ (m : Int → Nat),
    (p.fst = p.fst ∧
        p.snd.fst = p.snd.fst ∧
          p.snd.snd = p.snd.snd ∧ [p.fst, p.snd.fst, p.snd.snd] = [p.fst, p.snd.fst, p.snd.snd] ∧ I 0) ∧
      ∀ (x : Int),
        I x →
          (x < (↑3 : Int) →
              0 ≤ x ∧
                x < (↑3 : Int) ∧
                  (gt [p.fst, p.snd.fst, p.snd.snd] x < 0 ∨ 1099511627776 < gt [p.fst, p.snd.fst, p.snd.snd] x →
                      false = bo (posOk p)) ∧
                    (¬(gt [p.fst, p.snd.fst, p.snd.snd] x < 0 ∨ 1099511627776 < gt [p.fst, p.snd.fst, p.snd.snd] x) →
                      inI64 (x + 1) ∧
                        p.fst = p.fst ∧
                          p.snd.fst = p.snd.fst ∧
                            p.snd.snd = p.snd.snd ∧
                              [p.fst, p.snd.fst, p.snd.snd] = [p.fst, p.snd.fst, p.snd.snd] ∧
                                I (x + 1) ∧ m (x + 1) < m x)) ∧
            (¬x < (↑3 : Int) →
              (p.snd.fst = 0 → bo (p.snd.snd = p.fst) = bo (posOk p)) ∧
                (¬p.snd.fst = 0 → inI64 (p.fst - p.snd.snd) ∧ bo (p.snd.fst ≤ p.fst - p.snd.snd) = bo (posOk p)))) :
    Con Try.prog f_ref_PosMay ref_PosMay_ct := fun x hx =>
  con_eq hC (L := []) (trivial) ref_PosMay_ok (ct := ref_PosMay_ct) (depth := 0) (by kernel_rfl) x (H (@id ((Int × Int × Int)) x) (mpr' hx (by kernel_rfl))) (by kernel_rfl)

theorem ref_PosJoin_vc (hC : Cons Try.prog [(f_ref_PosMay, ref_PosMay_ct)])
    (H : ∀ (a : Int × Int × Int) (b : Int × Int × Int), (True) →
  True ∧
  (¬¬bo (posOk (a.fst, a.snd.fst, a.snd.snd)) = true → True) ∧
    (¬bo (posOk (a.fst, a.snd.fst, a.snd.snd)) = true ∨ ¬bo (posOk (b.fst, b.snd.fst, b.snd.snd)) = true →
        (0, 0, 0) = (posJoin a b).fst ∧ 4 = (posJoin a b).snd) ∧
      (¬(¬bo (posOk (a.fst, a.snd.fst, a.snd.snd)) = true ∨ ¬bo (posOk (b.fst, b.snd.fst, b.snd.snd)) = true) →
        (b.snd.fst = 0 →
            inI64 (a.snd.snd + b.fst) ∧
              inI64 (b.fst + a.fst) ∧
                inI64 (b.snd.fst + a.snd.fst) ∧
                  True ∧
                    (¬bo (posOk (b.fst + a.fst, b.snd.fst + a.snd.fst, a.snd.snd + b.fst)) = true →
                        (0, 0, 0) = (posJoin a b).fst ∧ 4 = (posJoin a b).snd) ∧
                      (¬¬bo (posOk (b.fst + a.fst, b.snd.fst + a.snd.fst, a.snd.snd + b.fst)) = true →
                        (b.fst + a.fst, b.snd.fst + a.snd.fst, a.snd.snd + b.fst) = (posJoin a b).fst ∧
                          0 = (posJoin a b).snd)) ∧
          (¬b.snd.fst = 0 →
            inI64 (b.fst + a.fst) ∧
              inI64 (b.snd.fst + a.snd.fst) ∧
                True ∧
                  (¬bo (posOk (b.fst + a.fst, b.snd.fst + a.snd.fst, b.snd.snd)) = true →
                      (0, 0, 0) = (posJoin a b).fst ∧ 4 = (posJoin a b).snd) ∧
                    (¬¬bo (posOk (b.fst + a.fst, b.snd.fst + a.snd.fst, b.snd.snd)) = true →
                      (b.fst + a.fst, b.snd.fst + a.snd.fst, b.snd.snd) = (posJoin a b).fst ∧ 0 = (posJoin a b).snd)))) :
    Con Try.prog f_ref_PosJoin ref_PosJoin_ct := fun x hx =>
  con_eq hC (L := []) (trivial) ref_PosJoin_ok (ct := ref_PosJoin_ct) (depth := 0) (by kernel_rfl) x (H (@id ((Int × Int × Int) × (Int × Int × Int)) x).1 (@id ((Int × Int × Int) × (Int × Int × Int)) x).2 (mpr' hx (by kernel_rfl))) (by kernel_rfl)

theorem law_PosJoins_vc (hC : Cons Try.prog [(f_pos_Join, pos_Join_ct), (f_ref_PosJoin, ref_PosJoin_ct)])
    (H : ∀ (a : Int × Int × Int) (b : Int × Int × Int), (((IntKind.i64.min ≤ a.1 ∧ a.1 ≤ IntKind.i64.max) ∧
    (IntKind.i64.min ≤ a.2.1 ∧ a.2.1 ≤ IntKind.i64.max) ∧ IntKind.i64.min ≤ a.2.2 ∧ a.2.2 ≤ IntKind.i64.max) ∧
  (IntKind.i64.min ≤ b.1 ∧ b.1 ≤ IntKind.i64.max) ∧
    (IntKind.i64.min ≤ b.2.1 ∧ b.2.1 ≤ IntKind.i64.max) ∧ IntKind.i64.min ≤ b.2.2 ∧ b.2.2 ≤ IntKind.i64.max) →
  True ∧
  True ∧
    bo
        (((posJoin (a.fst, a.snd.fst, a.snd.snd) (b.fst, b.snd.fst, b.snd.snd)).fst.fst =
              (posJoin (a.fst, a.snd.fst, a.snd.snd) (b.fst, b.snd.fst, b.snd.snd)).fst.fst ∧
            (posJoin (a.fst, a.snd.fst, a.snd.snd) (b.fst, b.snd.fst, b.snd.snd)).fst.snd.fst =
                (posJoin (a.fst, a.snd.fst, a.snd.snd) (b.fst, b.snd.fst, b.snd.snd)).fst.snd.fst ∧
              (posJoin (a.fst, a.snd.fst, a.snd.snd) (b.fst, b.snd.fst, b.snd.snd)).fst.snd.snd =
                (posJoin (a.fst, a.snd.fst, a.snd.snd) (b.fst, b.snd.fst, b.snd.snd)).fst.snd.snd) ∧
          (posJoin (a.fst, a.snd.fst, a.snd.snd) (b.fst, b.snd.fst, b.snd.snd)).snd =
            (posJoin (a.fst, a.snd.fst, a.snd.snd) (b.fst, b.snd.fst, b.snd.snd)).snd) =
      true) :
    Con Try.prog f_law_PosJoins law_PosJoins_ct := fun x hx =>
  con_eq hC (L := []) (trivial) law_PosJoins_ok (ct := law_PosJoins_ct) (depth := 0) (by kernel_rfl) x (H (@id ((Int × Int × Int) × (Int × Int × Int)) x).1 (@id ((Int × Int × Int) × (Int × Int × Int)) x).2 (mpr' hx (by kernel_rfl))) (by kernel_rfl)

end Go.Proofs.Ytgnhlecfladigaa
