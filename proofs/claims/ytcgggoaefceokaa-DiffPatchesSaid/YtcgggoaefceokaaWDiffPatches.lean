/- The typed conditions of the functions, printed by a program of the claim's author; each gives the contract of its function. Conditions: none. -/
import Derived.Test.YtcgggoaefceokaaGDiffPatches
import Derived.Test.YtcgggoaefceokaaVpA
import Derived.Test.YtcgggoaefceokaaVpB
import Derived.Test.YtcgggoaefceokaaVpC
import Derived.Test.YtcgggoaefceokaaVpE
import Derived.Test.YtcgggoaefceokaaVpH
import Derived.Test.YtcgggoaefceokaaBase
set_option linter.unusedVariables false
set_option linter.unusedSimpArgs false
set_option maxRecDepth 100000
namespace Go.Proofs.Ytcgggoaefceokaa
open Go.Vc Go.Fu

theorem diff_Patch_vc (hC : Cons Try.prog [])
    (H : ∀ (a : List (List UInt8)) (l : List (Int × Int)) (news : List (List UInt8)), (True) →
  (((200 : Int) < (↑l.length : Int) ∨ (80 : Int) < (↑a.length : Int)) ∨ (80 : Int) < (↑news.length : Int) →
    [] = (patchOf a l news).fst ∧ (1 : Int) = (patchOf a l news).snd) ∧
  (¬(((200 : Int) < (↑l.length : Int) ∨ (80 : Int) < (↑a.length : Int)) ∨ (80 : Int) < (↑news.length : Int)) →
    ∃ (I : Int → List (List UInt8) → List (List UInt8) → List (List UInt8) → Prop),
      ∃ (m : Int → List (List UInt8) → List (List UInt8) → List (List UInt8) → Nat),
        I (0 : Int) a news [] ∧
          ∀ (x : Int) (a_2 news_1 out : List (List UInt8)),
            I x a_2 news_1 out →
              (x < (↑l.length : Int) →
                  (0 : Int) ≤ x ∧
                    x < (↑l.length : Int) ∧
                      ((gt l x).fst < (1 : Int) ∨ (3 : Int) < (gt l x).fst →
                          [] = (patchOf a l news).fst ∧ (3 : Int) = (patchOf a l news).snd) ∧
                        (¬((gt l x).fst < (1 : Int) ∨ (3 : Int) < (gt l x).fst) →
                          ((gt l x).snd < (1 : Int) ∨ (200 : Int) < (gt l x).snd →
                              [] = (patchOf a l news).fst ∧ (2 : Int) = (patchOf a l news).snd) ∧
                            (¬((gt l x).snd < (1 : Int) ∨ (200 : Int) < (gt l x).snd) →
                              ((gt l x).fst = (3 : Int) →
                                  ((↑news_1.length : Int) < (gt l x).snd →
                                      [] = (patchOf a l news).fst ∧ (5 : Int) = (patchOf a l news).snd) ∧
                                    (¬(↑news_1.length : Int) < (gt l x).snd →
                                      ((gt l x).fst ≠ (2 : Int) →
                                          (0 : Int) ≤ (0 : Int) ∧
                                            (0 : Int) ≤ (gt l x).snd ∧
                                              (gt l x).snd ≤ (↑news_1.length : Int) ∧
                                                (out.length +
                                                        (List.drop (Int.toNat (0 : Int))
                                                            (List.take (gt l x).snd.toNat news_1)).length) *
                                                      (16 : Nat) ≤
                                                    (140737488355328 : Nat) ∧
                                                  (0 : Int) ≤ (gt l x).snd ∧
                                                    (gt l x).snd ≤ (↑news_1.length : Int) ∧
                                                      (↑news_1.length : Int) ≤ (↑news_1.length : Int) ∧
                                                        inI64 (x + (1 : Int)) ∧
                                                          I (x + (1 : Int)) a_2
                                                              (List.drop (gt l x).snd.toNat
                                                                (List.take (↑news_1.length : Int).toNat news_1))
                                                              (out ++
                                                                List.drop (Int.toNat (0 : Int))
                                                                  (List.take (gt l x).snd.toNat news_1)) ∧
                                                            m (x + (1 : Int)) a_2
                                                                (List.drop (gt l x).snd.toNat
                                                                  (List.take (↑news_1.length : Int).toNat news_1))
                                                                (out ++
                                                                  List.drop (Int.toNat (0 : Int))
                                                                    (List.take (gt l x).snd.toNat news_1)) <
                                                              m x a_2 news_1 out) ∧
                                        (¬(gt l x).fst ≠ (2 : Int) →
                                          (0 : Int) ≤ (gt l x).snd ∧
                                            (gt l x).snd ≤ (↑news_1.length : Int) ∧
                                              (↑news_1.length : Int) ≤ (↑news_1.length : Int) ∧
                                                inI64 (x + (1 : Int)) ∧
                                                  I (x + (1 : Int)) a_2
                                                      (List.drop (gt l x).snd.toNat
                                                        (List.take (↑news_1.length : Int).toNat news_1))
                                                      out ∧
                                                    m (x + (1 : Int)) a_2
                                                        (List.drop (gt l x).snd.toNat
                                                          (List.take (↑news_1.length : Int).toNat news_1))
                                                        out <
                                                      m x a_2 news_1 out))) ∧
                                (¬(gt l x).fst = (3 : Int) →
                                  ((↑a_2.length : Int) < (gt l x).snd →
                                      [] = (patchOf a l news).fst ∧ (5 : Int) = (patchOf a l news).snd) ∧
                                    (¬(↑a_2.length : Int) < (gt l x).snd →
                                      ((gt l x).fst ≠ (2 : Int) →
                                          (0 : Int) ≤ (0 : Int) ∧
                                            (0 : Int) ≤ (gt l x).snd ∧
                                              (gt l x).snd ≤ (↑a_2.length : Int) ∧
                                                (out.length +
                                                        (List.drop (Int.toNat (0 : Int))
                                                            (List.take (gt l x).snd.toNat a_2)).length) *
                                                      (16 : Nat) ≤
                                                    (140737488355328 : Nat) ∧
                                                  (0 : Int) ≤ (gt l x).snd ∧
                                                    (gt l x).snd ≤ (↑a_2.length : Int) ∧
                                                      (↑a_2.length : Int) ≤ (↑a_2.length : Int) ∧
                                                        inI64 (x + (1 : Int)) ∧
                                                          I (x + (1 : Int))
                                                              (List.drop (gt l x).snd.toNat
                                                                (List.take (↑a_2.length : Int).toNat a_2))
                                                              news_1
                                                              (out ++
                                                                List.drop (Int.toNat (0 : Int))
                                                                  (List.take (gt l x).snd.toNat a_2)) ∧
                                                            m (x + (1 : Int))
                                                                (List.drop (gt l x).snd.toNat
                                                                  (List.take (↑a_2.length : Int).toNat a_2))
                                                                news_1
                                                                (out ++
                                                                  List.drop (Int.toNat (0 : Int))
                                                                    (List.take (gt l x).snd.toNat a_2)) <
                                                              m x a_2 news_1 out) ∧
                                        (¬(gt l x).fst ≠ (2 : Int) →
                                          (0 : Int) ≤ (gt l x).snd ∧
                                            (gt l x).snd ≤ (↑a_2.length : Int) ∧
                                              (↑a_2.length : Int) ≤ (↑a_2.length : Int) ∧
                                                inI64 (x + (1 : Int)) ∧
                                                  I (x + (1 : Int))
                                                      (List.drop (gt l x).snd.toNat
                                                        (List.take (↑a_2.length : Int).toNat a_2))
                                                      news_1 out ∧
                                                    m (x + (1 : Int))
                                                        (List.drop (gt l x).snd.toNat
                                                          (List.take (↑a_2.length : Int).toNat a_2))
                                                        news_1 out <
                                                      m x a_2 news_1 out)))))) ∧
                (¬x < (↑l.length : Int) →
                  ((0 : Int) < (↑a_2.length : Int) ∨ (0 : Int) < (↑news_1.length : Int) →
                      [] = (patchOf a l news).fst ∧ (4 : Int) = (patchOf a l news).snd) ∧
                    (¬((0 : Int) < (↑a_2.length : Int) ∨ (0 : Int) < (↑news_1.length : Int)) →
                      out = (patchOf a l news).fst ∧ (0 : Int) = (patchOf a l news).snd)))) :
    Con Try.prog f_diff_Patch diff_Patch_ct := fun x hx =>
  con_eq hC (L := []) (trivial) diff_Patch_ok (ct := diff_Patch_ct) (depth := 0) (by kernel_rfl) x (H (@id (List (List UInt8) × (List (Int × Int)) × List (List UInt8)) x).1 (@id (List (List UInt8) × (List (Int × Int)) × List (List UInt8)) x).2.1 (@id (List (List UInt8) × (List (Int × Int)) × List (List UInt8)) x).2.2 (mpr' hx (by kernel_rfl))) (by kernel_rfl)

theorem ref_DiffPatch_vc (hC : Cons Try.prog [])
    (H : ∀ (a : List (List UInt8)) (l : List (Int × Int)) (news : List (List UInt8)), (True) →
  ((200 < (↑l.length : Int) ∨ 80 < (↑a.length : Int)) ∨ 80 < (↑news.length : Int) →
    [] = (patchOf a l news).fst ∧ 1 = (patchOf a l news).snd) ∧
  (¬((200 < (↑l.length : Int) ∨ 80 < (↑a.length : Int)) ∨ 80 < (↑news.length : Int)) →
    ∃ (I : Int → Int → Int → List (List UInt8) → Prop),
      ∃ (m : Int → Int → Int → List (List UInt8) → Nat),
        I 0 0 0 [] ∧
          ∀ (i k x : Int) (out : List (List UInt8)),
            I i k x out →
              (x < (↑l.length : Int) →
                  0 ≤ x ∧
                    x < (↑l.length : Int) ∧
                      (((gt l x).fst ≠ 1 ∧ (gt l x).fst ≠ 2) ∧ (gt l x).fst ≠ 3 →
                          [] = (patchOf a l news).fst ∧ 3 = (patchOf a l news).snd) ∧
                        (¬(((gt l x).fst ≠ 1 ∧ (gt l x).fst ≠ 2) ∧ (gt l x).fst ≠ 3) →
                          ((gt l x).snd < 1 ∨ 200 < (gt l x).snd →
                              [] = (patchOf a l news).fst ∧ 2 = (patchOf a l news).snd) ∧
                            (¬((gt l x).snd < 1 ∨ 200 < (gt l x).snd) →
                              ∃ (I_1 : Int → Int → Int → List (List UInt8) → Prop),
                                ∃ (m_1 : Int → Int → Int → List (List UInt8) → Nat),
                                  ((gt l x).fst = (gt l x).fst ∧ (gt l x).snd = (gt l x).snd ∧ I_1 i k 0 out) ∧
                                    ∀ (i_1 k_1 n : Int) (out_1 : List (List UInt8)),
                                      I_1 i_1 k_1 n out_1 →
                                        (n < (gt l x).snd →
                                            ((gt l x).fst = 3 ∧ k_1 = (↑news.length : Int) ∨
                                                  (gt l x).fst ≠ 3 ∧ i_1 = (↑a.length : Int) →
                                                [] = (patchOf a l news).fst ∧ 5 = (patchOf a l news).snd) ∧
                                              (¬((gt l x).fst = 3 ∧ k_1 = (↑news.length : Int) ∨
                                                    (gt l x).fst ≠ 3 ∧ i_1 = (↑a.length : Int)) →
                                                ((gt l x).fst = 1 →
                                                    0 ≤ i_1 ∧
                                                      i_1 < (↑a.length : Int) ∧
                                                        (out_1.length + 1) * 16 ≤ 140737488355328 ∧
                                                          inI64 (i_1 + 1) ∧
                                                            inI64 (n + 1) ∧
                                                              (gt l x).fst = (gt l x).fst ∧
                                                                (gt l x).snd = (gt l x).snd ∧
                                                                  I_1 (i_1 + 1) k_1 (n + 1) (out_1 ++ [gt a i_1]) ∧
                                                                    m_1 (i_1 + 1) k_1 (n + 1) (out_1 ++ [gt a i_1]) <
                                                                      m_1 i_1 k_1 n out_1) ∧
                                                  (¬(gt l x).fst = 1 →
                                                    ((gt l x).fst = 2 →
                                                        inI64 (i_1 + 1) ∧
                                                          inI64 (n + 1) ∧
                                                            (gt l x).fst = (gt l x).fst ∧
                                                              (gt l x).snd = (gt l x).snd ∧
                                                                I_1 (i_1 + 1) k_1 (n + 1) out_1 ∧
                                                                  m_1 (i_1 + 1) k_1 (n + 1) out_1 <
                                                                    m_1 i_1 k_1 n out_1) ∧
                                                      (¬(gt l x).fst = 2 →
                                                        0 ≤ k_1 ∧
                                                          k_1 < (↑news.length : Int) ∧
                                                            (out_1.length + 1) * 16 ≤ 140737488355328 ∧
                                                              inI64 (k_1 + 1) ∧
                                                                inI64 (n + 1) ∧
                                                                  (gt l x).fst = (gt l x).fst ∧
                                                                    (gt l x).snd = (gt l x).snd ∧
                                                                      I_1 i_1 (k_1 + 1) (n + 1)
                                                                          (out_1 ++ [gt news k_1]) ∧
                                                                        m_1 i_1 (k_1 + 1) (n + 1)
                                                                            (out_1 ++ [gt news k_1]) <
                                                                          m_1 i_1 k_1 n out_1)))) ∧
                                          (¬n < (gt l x).snd →
                                            inI64 (x + 1) ∧
                                              I i_1 k_1 (x + 1) out_1 ∧ m i_1 k_1 (x + 1) out_1 < m i k x out)))) ∧
                (¬x < (↑l.length : Int) →
                  (i < (↑a.length : Int) ∨ k < (↑news.length : Int) →
                      [] = (patchOf a l news).fst ∧ 4 = (patchOf a l news).snd) ∧
                    (¬(i < (↑a.length : Int) ∨ k < (↑news.length : Int)) →
                      out = (patchOf a l news).fst ∧ 0 = (patchOf a l news).snd)))) :
    Con Try.prog f_ref_DiffPatch ref_DiffPatch_ct := fun x hx =>
  con_eq hC (L := []) (trivial) ref_DiffPatch_ok (ct := ref_DiffPatch_ct) (depth := 0) (by kernel_rfl) x (H (@id (List (List UInt8) × (List (Int × Int)) × List (List UInt8)) x).1 (@id (List (List UInt8) × (List (Int × Int)) × List (List UInt8)) x).2.1 (@id (List (List UInt8) × (List (Int × Int)) × List (List UInt8)) x).2.2 (mpr' hx (by kernel_rfl))) (by kernel_rfl)

theorem law_sameTexts_vc (hC : Cons Try.prog [])
    (H : ∀ (a : List (List UInt8)) (b : List (List UInt8)), (fitL a ∧ fitL b) →
  ((↑a.length : Int) ≠ (↑b.length : Int) → false = bo (a = b)) ∧
  (¬(↑a.length : Int) ≠ (↑b.length : Int) →
    ∃ (I : Int → Prop),
      ∃ (m : Int → Nat),
        I 0 ∧
          ∀ (i : Int),
            I i →
              (i < (↑a.length : Int) →
                  0 ≤ i ∧
                    i < (↑a.length : Int) ∧
                      0 ≤ i ∧
                        i < (↑b.length : Int) ∧
                          (gt a i ≠ gt b i → false = bo (a = b)) ∧
                            (¬gt a i ≠ gt b i → inI64 (i + 1) ∧ I (i + 1) ∧ m (i + 1) < m i)) ∧
                (¬i < (↑a.length : Int) → true = bo (a = b)))) :
    Con Try.prog f_law_sameTexts law_sameTexts_ct := fun x hx =>
  con_eq hC (L := []) (trivial) law_sameTexts_ok (ct := law_sameTexts_ct) (depth := 0) (by kernel_rfl) x (H (@id (List (List UInt8) × List (List UInt8)) x).1 (@id (List (List UInt8) × List (List UInt8)) x).2 (mpr' hx (by kernel_rfl))) (by kernel_rfl)

theorem law_DiffPatches_vc (hC : Cons Try.prog [(f_diff_Patch, diff_Patch_ct), (f_ref_DiffPatch, ref_DiffPatch_ct), (f_law_sameTexts, law_sameTexts_ct)])
    (H : ∀ (a : List (List UInt8)) (l : List (Int × Int)) (news : List (List UInt8)), ((a.length ≤ 140737488351232 ∧ ∀ (x : List UInt8), List.Mem x a → x.length.le 140737488351232) ∧
  (l.length ≤ 140737488351232 ∧
      ∀ (x : Int × Int),
        List.Mem x l →
          (IntKind.i64.min ≤ x.1 ∧ x.1 ≤ IntKind.i64.max) ∧ IntKind.i64.min ≤ x.2 ∧ x.2 ≤ IntKind.i64.max) ∧
    news.length ≤ 140737488351232 ∧ ∀ (x : List UInt8), List.Mem x news → x.length.le 140737488351232) →
  True ∧
  True ∧
    (fitL (patchOf a l news).fst ∧ fitL (patchOf a l news).fst) ∧
      bo
          (bo ((patchOf a l news).fst = (patchOf a l news).fst) = true ∧
            (patchOf a l news).snd = (patchOf a l news).snd) =
        true) :
    Con Try.prog f_law_DiffPatches law_DiffPatches_ct := fun x hx =>
  con_eq hC (L := []) (trivial) law_DiffPatches_ok (ct := law_DiffPatches_ct) (depth := 0) (by kernel_rfl) x (H (@id (List (List UInt8) × (List (Int × Int)) × List (List UInt8)) x).1 (@id (List (List UInt8) × (List (Int × Int)) × List (List UInt8)) x).2.1 (@id (List (List UInt8) × (List (Int × Int)) × List (List UInt8)) x).2.2 (mpr' hx (by kernel_rfl))) (by kernel_rfl)

end Go.Proofs.Ytcgggoaefceokaa
