/- The typed conditions of the functions, printed by a program of the claim's author; each gives the contract of its function. Conditions: none. -/
import Derived.Test.YtcgggoaefceokaaGFindAlls
import Derived.Test.YtcgggoaefceokaaVpA
import Derived.Test.YtcgggoaefceokaaVpB
import Derived.Test.YtcgggoaefceokaaVpC
import Derived.Test.YtcgggoaefceokaaVpD
import Derived.Test.YtcgggoaefceokaaVpE
import Derived.Test.YtcgggoaefceokaaVpG
import Derived.Test.YtcgggoaefceokaaVpI
import Derived.Test.YtcgggoaefceokaaVpK
import Derived.Test.YtcgggoaefceokaaBase
set_option linter.unusedVariables false
set_option linter.unusedSimpArgs false
set_option maxRecDepth 100000
namespace Go.Proofs.Ytcgggoaefceokaa
open Go.Vc Go.Fu

theorem find_fault_vc (hC : Cons Try.prog [])
    (H : ∀ (text : List UInt8) (find : List UInt8), (True) →
  (600 < (↑text.length : Int) ∨ 20 < (↑find.length : Int) → 1 = findFault text find) ∧
  (¬(600 < (↑text.length : Int) ∨ 20 < (↑find.length : Int)) →
    (find = [] → 4 = findFault text find) ∧ (¬find = [] → 0 = findFault text find))) :
    Con Try.prog f_find_fault find_fault_ct := fun x hx =>
  con_eq hC (L := []) (trivial) find_fault_ok (ct := find_fault_ct) (depth := 0) (by kernel_rfl) x (H (@id (List UInt8 × List UInt8) x).1 (@id (List UInt8 × List UInt8) x).2 (mpr' hx (by kernel_rfl))) (by kernel_rfl)

theorem find_border_vc (hC : Cons Try.prog [])
    (H : ∀ (s : List UInt8), (s.length ≤ 1000000) →
  (↑s.length : Int) = (↑s.length : Int) ∧
  0 ≤ (↑s.length : Int) ∧
    8 * (↑s.length : Int).toNat ≤ 140737488355328 ∧
      ∃ (I : Int → Int → List Int → Prop),
        ∃ (m : Int → Int → List Int → Nat),
          I 0 1 (List.replicate (↑s.length : Int).toNat 0) ∧
            ∀ (n i : Int) (out : List Int),
              I n i out →
                (i < (↑s.length : Int) →
                    ∃ (I_1 : Int → Prop),
                      ∃ (m_1 : Int → Nat),
                        (out = out ∧ I_1 n) ∧
                          ∀ (n_1 : Int),
                            I_1 n_1 →
                              (0 < n_1 → 0 ≤ i) ∧
                                (0 < n_1 → i < (↑s.length : Int)) ∧
                                  (0 < n_1 → 0 ≤ n_1) ∧
                                    (0 < n_1 → n_1 < (↑s.length : Int)) ∧
                                      (0 < n_1 ∧ gt s i ≠ gt s n_1 →
                                          inI64 (n_1 - 1) ∧
                                            0 ≤ n_1 - 1 ∧
                                              n_1 - 1 < (↑out.length : Int) ∧
                                                out = out ∧ I_1 (gt out (n_1 - 1)) ∧ m_1 (gt out (n_1 - 1)) < m_1 n_1) ∧
                                        (¬(0 < n_1 ∧ gt s i ≠ gt s n_1) →
                                          0 ≤ i ∧
                                            i < (↑s.length : Int) ∧
                                              0 ≤ n_1 ∧
                                                n_1 < (↑s.length : Int) ∧
                                                  (gt s i = gt s n_1 → inI64 (n_1 + 1)) ∧
                                                    0 ≤ i ∧
                                                      i < (↑out.length : Int) ∧
                                                        inI64 (i + 1) ∧
                                                          I (iteP (gt s i = gt s n_1) (n_1 + 1) n_1) (i + 1)
                                                              (out.set i.toNat
                                                                (iteP (gt s i = gt s n_1) (n_1 + 1) n_1)) ∧
                                                            m (iteP (gt s i = gt s n_1) (n_1 + 1) n_1) (i + 1)
                                                                (out.set i.toNat
                                                                  (iteP (gt s i = gt s n_1) (n_1 + 1) n_1)) <
                                                              m n i out)) ∧
                  (¬i < (↑s.length : Int) → out = borders s)) :
    Con Try.prog f_find_border find_border_ct := fun x hx =>
  con_eq hC (L := []) (trivial) find_border_ok (ct := find_border_ct) (depth := 0) (by kernel_rfl) x (H (@id (List UInt8) x) (mpr' hx (by kernel_rfl))) (by kernel_rfl)

theorem find_In_vc (hC : Cons Try.prog [(f_find_border, find_border_ct)])
    (H : ∀ (text : List UInt8) (find : List UInt8), (text.length ≤ 100000 ∧ find.length ≤ 100000 ∧ find ≠ []) →
  find.length ≤ 1000000 ∧
  ∃ (I : Int → Int → List Int → Prop),
    ∃ (m : Int → Int → List Int → Nat),
      (borders find = borders find ∧ I 0 0 []) ∧
        ∀ (n x : Int) (out : List Int),
          I n x out →
            (x < (↑text.length : Int) →
                ∃ (I_1 : Int → Prop),
                  ∃ (m_1 : Int → Nat),
                    (borders find = borders find ∧ out = out ∧ I_1 n) ∧
                      ∀ (n_1 : Int),
                        I_1 n_1 →
                          (0 < n_1 ∧ ¬n_1 = (↑find.length : Int) → 0 ≤ x) ∧
                            (0 < n_1 ∧ ¬n_1 = (↑find.length : Int) → x < (↑text.length : Int)) ∧
                              (0 < n_1 ∧ ¬n_1 = (↑find.length : Int) → 0 ≤ n_1) ∧
                                (0 < n_1 ∧ ¬n_1 = (↑find.length : Int) → n_1 < (↑find.length : Int)) ∧
                                  (0 < n_1 ∧ (n_1 = (↑find.length : Int) ∨ gt text x ≠ gt find n_1) →
                                      inI64 (n_1 - 1) ∧
                                        0 ≤ n_1 - 1 ∧
                                          n_1 - 1 < (↑(borders find).length : Int) ∧
                                            borders find = borders find ∧
                                              out = out ∧
                                                I_1 (gt (borders find) (n_1 - 1)) ∧
                                                  m_1 (gt (borders find) (n_1 - 1)) < m_1 n_1) ∧
                                    (¬(0 < n_1 ∧ (n_1 = (↑find.length : Int) ∨ gt text x ≠ gt find n_1)) →
                                      0 ≤ x ∧
                                        x < (↑text.length : Int) ∧
                                          0 ≤ n_1 ∧
                                            n_1 < (↑find.length : Int) ∧
                                              (gt text x = gt find n_1 → inI64 (n_1 + 1)) ∧
                                                (iteP (gt text x = gt find n_1) (n_1 + 1) n_1 = (↑find.length : Int) →
                                                    inI64 (x + 1) ∧
                                                      inI64 (x + 1 - iteP (gt text x = gt find n_1) (n_1 + 1) n_1) ∧
                                                        (out.length + 1) * 8 ≤ 140737488355328 ∧
                                                          inI64 (x + 1) ∧
                                                            borders find = borders find ∧
                                                              I (iteP (gt text x = gt find n_1) (n_1 + 1) n_1) (x + 1)
                                                                  (out ++
                                                                    [x + 1 -
                                                                        iteP (gt text x = gt find n_1) (n_1 + 1) n_1]) ∧
                                                                m (iteP (gt text x = gt find n_1) (n_1 + 1) n_1) (x + 1)
                                                                    (out ++
                                                                      [x + 1 -
                                                                          iteP (gt text x = gt find n_1) (n_1 + 1)
                                                                            n_1]) <
                                                                  m n x out) ∧
                                                  (¬iteP (gt text x = gt find n_1) (n_1 + 1) n_1 =
                                                        (↑find.length : Int) →
                                                    inI64 (x + 1) ∧
                                                      borders find = borders find ∧
                                                        I (iteP (gt text x = gt find n_1) (n_1 + 1) n_1) (x + 1) out ∧
                                                          m (iteP (gt text x = gt find n_1) (n_1 + 1) n_1) (x + 1) out <
                                                            m n x out))) ∧
              (¬x < (↑text.length : Int) → out = findAt text find)) :
    Con Try.prog f_find_In find_In_ct := fun x hx =>
  con_eq hC (L := []) (trivial) find_In_ok (ct := find_In_ct) (depth := 0) (by kernel_rfl) x (H (@id (List UInt8 × List UInt8) x).1 (@id (List UInt8 × List UInt8) x).2 (mpr' hx (by kernel_rfl))) (by kernel_rfl)

theorem find_All_vc (hC : Cons Try.prog [(f_find_fault, find_fault_ct), (f_find_In, find_In_ct)])
    (H : ∀ (text : List UInt8) (find : List UInt8), (True) →
  True ∧
  (findFault text find ≠ 0 → [] = (findAll text find).fst ∧ findFault text find = (findAll text find).snd) ∧
    (¬findFault text find ≠ 0 →
      (text.length ≤ 100000 ∧ find.length ≤ 100000 ∧ find ≠ []) ∧
        findAt text find = (findAll text find).fst ∧ 0 = (findAll text find).snd)) :
    Con Try.prog f_find_All find_All_ct := fun x hx =>
  con_eq hC (L := []) (trivial) find_All_ok (ct := find_All_ct) (depth := 0) (by kernel_rfl) x (H (@id (List UInt8 × List UInt8) x).1 (@id (List UInt8 × List UInt8) x).2 (mpr' hx (by kernel_rfl))) (by kernel_rfl)

theorem ref_findFault_vc (hC : Cons Try.prog [])
    (H : ∀ (text : List UInt8) (find : List UInt8), (True) →
  (600 < (↑text.length : Int) ∨ 20 < (↑find.length : Int) → 1 = findFault text find) ∧
  (¬(600 < (↑text.length : Int) ∨ 20 < (↑find.length : Int)) →
    (find = [] → 4 = findFault text find) ∧ (¬find = [] → 0 = findFault text find))) :
    Con Try.prog f_ref_findFault ref_findFault_ct := fun x hx =>
  con_eq hC (L := []) (trivial) ref_findFault_ok (ct := ref_findFault_ct) (depth := 0) (by kernel_rfl) x (H (@id (List UInt8 × List UInt8) x).1 (@id (List UInt8 × List UInt8) x).2 (mpr' hx (by kernel_rfl))) (by kernel_rfl)

theorem ref_standsAt_vc (hC : Cons Try.prog [])
    (H : ∀ (text : List UInt8) (find : List UInt8) (at_ : Int), (fitS text ∧ fitS find ∧ standPre at_) →
  (0 ≤ at_ → inI64 (at_ + (↑find.length : Int))) ∧
  (0 ≤ at_ ∧ at_ + (↑find.length : Int) ≤ (↑text.length : Int) → inI64 (at_ + (↑find.length : Int))) ∧
    (0 ≤ at_ ∧ at_ + (↑find.length : Int) ≤ (↑text.length : Int) → 0 ≤ at_) ∧
      (0 ≤ at_ ∧ at_ + (↑find.length : Int) ≤ (↑text.length : Int) → at_ ≤ at_ + (↑find.length : Int)) ∧
        (0 ≤ at_ ∧ at_ + (↑find.length : Int) ≤ (↑text.length : Int) →
            at_ + (↑find.length : Int) ≤ (↑text.length : Int)) ∧
          bo
              ((0 ≤ at_ ∧ at_ + (↑find.length : Int) ≤ (↑text.length : Int)) ∧
                List.drop at_.toNat (List.take (at_ + (↑find.length : Int)).toNat text) = find) =
            bo (stands text find at_)) :
    Con Try.prog f_ref_standsAt ref_standsAt_ct := fun x hx =>
  con_eq hC (L := []) (trivial) ref_standsAt_ok (ct := ref_standsAt_ct) (depth := 0) (by kernel_rfl) x (H (@id (List UInt8 × List UInt8 × Int) x).1 (@id (List UInt8 × List UInt8 × Int) x).2.1 (@id (List UInt8 × List UInt8 × Int) x).2.2 (mpr' hx (by kernel_rfl))) (by kernel_rfl)

theorem ref_FindAll_vc (hC : Cons Try.prog [(f_ref_findFault, ref_findFault_ct), (f_ref_standsAt, ref_standsAt_ct)])
    (H : ∀ (text : List UInt8) (find : List UInt8), (True) →
  True ∧
  (findFault text find ≠ 0 → [] = (findAll text find).fst ∧ findFault text find = (findAll text find).snd) ∧
    (¬findFault text find ≠ 0 →
      ∃ (I : Int → List Int → Prop),
        ∃ (m : Int → List Int → Nat),
          I 0 [] ∧
            ∀ (x : Int) (out : List Int),
              I x out →
                (x < (↑text.length : Int) →
                    (fitS text ∧ fitS find ∧ standPre x) ∧
                      (bo (stands text find x) = true →
                          (out.length + 1) * 8 ≤ 140737488355328 ∧
                            inI64 (x + 1) ∧ I (x + 1) (out ++ [x]) ∧ m (x + 1) (out ++ [x]) < m x out) ∧
                        (¬bo (stands text find x) = true → inI64 (x + 1) ∧ I (x + 1) out ∧ m (x + 1) out < m x out)) ∧
                  (¬x < (↑text.length : Int) → out = (findAll text find).fst ∧ 0 = (findAll text find).snd))) :
    Con Try.prog f_ref_FindAll ref_FindAll_ct := fun x hx =>
  con_eq hC (L := []) (trivial) ref_FindAll_ok (ct := ref_FindAll_ct) (depth := 0) (by kernel_rfl) x (H (@id (List UInt8 × List UInt8) x).1 (@id (List UInt8 × List UInt8) x).2 (mpr' hx (by kernel_rfl))) (by kernel_rfl)

theorem law_sameInts_vc (hC : Cons Try.prog [])
    (H : ∀ (a : List Int) (b : List Int), (fitL a ∧ fitL b) →
  ((↑a.length : Int) ≠ (↑b.length : Int) → false = bo (a = b)) ∧
  (¬(↑a.length : Int) ≠ (↑b.length : Int) →
    ∃ (I : Int → Prop),
      ∃ (m : Int → Nat),
        I 0 ∧
          ∀ (i : Int),
            I i →
              (i < (↑a.length : Int) →
                  0 ≤ i ∧
                    i < (↑a.length : Int) ∧
                      0 ≤ i ∧
                        i < (↑b.length : Int) ∧
                          (gt a i ≠ gt b i → false = bo (a = b)) ∧
                            (¬gt a i ≠ gt b i → inI64 (i + 1) ∧ I (i + 1) ∧ m (i + 1) < m i)) ∧
                (¬i < (↑a.length : Int) → true = bo (a = b)))) :
    Con Try.prog f_law_sameInts law_sameInts_ct := fun x hx =>
  con_eq hC (L := []) (trivial) law_sameInts_ok (ct := law_sameInts_ct) (depth := 0) (by kernel_rfl) x (H (@id (List Int × List Int) x).1 (@id (List Int × List Int) x).2 (mpr' hx (by kernel_rfl))) (by kernel_rfl)

theorem law_FindAlls_vc (hC : Cons Try.prog [(f_find_All, find_All_ct), (f_ref_FindAll, ref_FindAll_ct), (f_law_sameInts, law_sameInts_ct)])
    (H : ∀ (text : List UInt8) (s : List UInt8), (text.length.le 140737488351232 ∧ s.length.le 140737488351232) →
  True ∧
  True ∧
    (fitL (findAll text s).fst ∧ fitL (findAll text s).fst) ∧
      bo (bo ((findAll text s).fst = (findAll text s).fst) = true ∧ (findAll text s).snd = (findAll text s).snd) = true) :
    Con Try.prog f_law_FindAlls law_FindAlls_ct := fun x hx =>
  con_eq hC (L := []) (trivial) law_FindAlls_ok (ct := law_FindAlls_ct) (depth := 0) (by kernel_rfl) x (H (@id (List UInt8 × List UInt8) x).1 (@id (List UInt8 × List UInt8) x).2 (mpr' hx (by kernel_rfl))) (by kernel_rfl)

end Go.Proofs.Ytcgggoaefceokaa
