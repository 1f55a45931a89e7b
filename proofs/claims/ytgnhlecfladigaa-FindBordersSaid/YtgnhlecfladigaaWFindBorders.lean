/- The typed conditions of the functions, printed by a program of the claim's author; each gives the contract of its function. Conditions: none. -/
import Derived.Test.YtgnhlecfladigaaGFindBorders
import Derived.Test.YtgnhlecfladigaaVpA
import Derived.Test.YtgnhlecfladigaaVpB
import Derived.Test.YtgnhlecfladigaaVpC
import Derived.Test.YtgnhlecfladigaaVpD
import Derived.Test.YtgnhlecfladigaaBase
set_option linter.unusedVariables false
set_option linter.unusedSimpArgs false
set_option maxRecDepth 100000
namespace Go.Proofs.Ytgnhlecfladigaa
open Go.Vc Go.Fu

theorem find_border_vc (hC : Cons Try.prog [])
    (H : ∀ (s : List UInt8), (s.length ≤ 1000000) →
  (↑s.length : Int) = (↑s.length : Int) ∧
  0 ≤ (↑s.length : Int) ∧
    8 * (↑s.length : Int).toNat ≤ 140737488355328 ∧
      ∃ (I : Int → Int → List Int → Prop),
        ∃ (m : Int → Int → List Int → Nat),
          I 0 1 (List.replicate (↑s.length : Int).toNat 0) ∧
            ∀ (n i : Int) (out : List Int),
              I n i out →
                (i < (↑s.length : Int) →
                    ∃ (I_1 : Int → Prop),
                      ∃ (m_1 : Int → Nat),
                        (out = out ∧ I_1 n) ∧
                          ∀ (n_1 : Int),
                            I_1 n_1 →
                              (0 < n_1 → 0 ≤ i) ∧
                                (0 < n_1 → i < (↑s.length : Int)) ∧
                                  (0 < n_1 → 0 ≤ n_1) ∧
                                    (0 < n_1 → n_1 < (↑s.length : Int)) ∧
                                      (0 < n_1 ∧ gt s i ≠ gt s n_1 →
                                          inI64 (n_1 - 1) ∧
                                            0 ≤ n_1 - 1 ∧
                                              n_1 - 1 < (↑out.length : Int) ∧
                                                out = out ∧ I_1 (gt out (n_1 - 1)) ∧ m_1 (gt out (n_1 - 1)) < m_1 n_1) ∧
                                        (¬(0 < n_1 ∧ gt s i ≠ gt s n_1) →
                                          0 ≤ i ∧
                                            i < (↑s.length : Int) ∧
                                              0 ≤ n_1 ∧
                                                n_1 < (↑s.length : Int) ∧
                                                  (gt s i = gt s n_1 → inI64 (n_1 + 1)) ∧
                                                    0 ≤ i ∧
                                                      i < (↑out.length : Int) ∧
                                                        inI64 (i + 1) ∧
                                                          I (iteP (gt s i = gt s n_1) (n_1 + 1) n_1) (i + 1)
                                                              (out.set i.toNat
                                                                (iteP (gt s i = gt s n_1) (n_1 + 1) n_1)) ∧
                                                            m (iteP (gt s i = gt s n_1) (n_1 + 1) n_1) (i + 1)
                                                                (out.set i.toNat
                                                                  (iteP (gt s i = gt s n_1) (n_1 + 1) n_1)) <
                                                              m n i out)) ∧
                  (¬i < (↑s.length : Int) → out = borders s)) :
    Con Try.prog f_find_border find_border_ct := fun x hx =>
  con_eq hC (L := []) (trivial) find_border_ok (ct := find_border_ct) (depth := 0) (by kernel_rfl) x (H (@id (List UInt8) x) (mpr' hx (by kernel_rfl))) (by kernel_rfl)

theorem find_Border_vc (hC : Cons Try.prog [(f_find_border, find_border_ct)])
    (H : ∀ (s : List UInt8), (fitS s) →
  (600 < (↑s.length : Int) → [] = (findBorder s).fst ∧ 1 = (findBorder s).snd) ∧
  (¬600 < (↑s.length : Int) → s.length ≤ 1000000 ∧ borders s = (findBorder s).fst ∧ 0 = (findBorder s).snd)) :
    Con Try.prog f_find_Border find_Border_ct := fun x hx =>
  con_eq hC (L := []) (trivial) find_Border_ok (ct := find_Border_ct) (depth := 0) (by kernel_rfl) x (H (@id (List UInt8) x) (mpr' hx (by kernel_rfl))) (by kernel_rfl)

theorem ref_FindBorder_vc (hC : Cons Try.prog [])
    (H : ∀ (s : List UInt8), (fitS s) →
  ((600 : Int) < (↑s.length : Int) → [] = (findBorder s).fst ∧ (1 : Int) = (findBorder s).snd) ∧
  (¬(600 : Int) < (↑s.length : Int) →
    ∃ (I : Int → List Int → Prop),
      ∃ (m : Int → List Int → Nat),
        I (1 : Int) [] ∧
          ∀ (n : Int) (out : List Int),
            I n out →
              (n ≤ (↑s.length : Int) →
                  inI64 (n - (1 : Int)) ∧
                    ∃ (I_1 : Int → Prop),
                      ∃ (m_1 : Int → Nat),
                        (out = out ∧ I_1 (n - (1 : Int))) ∧
                          ∀ (k : Int),
                            I_1 k →
                              (0 : Int) ≤ (0 : Int) ∧
                                (0 : Int) ≤ k ∧
                                  k ≤ (↑s.length : Int) ∧
                                    inI64 (n - k) ∧
                                      (0 : Int) ≤ n - k ∧
                                        n - k ≤ n ∧
                                          n ≤ (↑s.length : Int) ∧
                                            (List.drop (Int.toNat (0 : Int)) (List.take k.toNat s) ≠
                                                  List.drop (n - k).toNat (List.take n.toNat s) →
                                                inI64 (k - (1 : Int)) ∧
                                                  out = out ∧ I_1 (k - (1 : Int)) ∧ m_1 (k - (1 : Int)) < m_1 k) ∧
                                              (¬List.drop (Int.toNat (0 : Int)) (List.take k.toNat s) ≠
                                                    List.drop (n - k).toNat (List.take n.toNat s) →
                                                (out.length + (1 : Nat)) * (8 : Nat) ≤ (140737488355328 : Nat) ∧
                                                  inI64 (n + (1 : Int)) ∧
                                                    I (n + (1 : Int)) (out ++ [k]) ∧
                                                      m (n + (1 : Int)) (out ++ [k]) < m n out)) ∧
                (¬n ≤ (↑s.length : Int) → out = (findBorder s).fst ∧ (0 : Int) = (findBorder s).snd))) :
    Con Try.prog f_ref_FindBorder ref_FindBorder_ct := fun x hx =>
  con_eq hC (L := []) (trivial) ref_FindBorder_ok (ct := ref_FindBorder_ct) (depth := 0) (by kernel_rfl) x (H (@id (List UInt8) x) (mpr' hx (by kernel_rfl))) (by kernel_rfl)

theorem law_sameInts_vc (hC : Cons Try.prog [])
    (H : ∀ (a : List Int) (b : List Int), (fitL a ∧ fitL b) →
  ((↑a.length : Int) ≠ (↑b.length : Int) → false = bo (a = b)) ∧
  (¬(↑a.length : Int) ≠ (↑b.length : Int) →
    ∃ (I : Int → Prop),
      ∃ (m : Int → Nat),
        I 0 ∧
          ∀ (i : Int),
            I i →
              (i < (↑a.length : Int) →
                  0 ≤ i ∧
                    i < (↑a.length : Int) ∧
                      0 ≤ i ∧
                        i < (↑b.length : Int) ∧
                          (gt a i ≠ gt b i → false = bo (a = b)) ∧
                            (¬gt a i ≠ gt b i → inI64 (i + 1) ∧ I (i + 1) ∧ m (i + 1) < m i)) ∧
                (¬i < (↑a.length : Int) → true = bo (a = b)))) :
    Con Try.prog f_law_sameInts law_sameInts_ct := fun x hx =>
  con_eq hC (L := []) (trivial) law_sameInts_ok (ct := law_sameInts_ct) (depth := 0) (by kernel_rfl) x (H (@id (List Int × List Int) x).1 (@id (List Int × List Int) x).2 (mpr' hx (by kernel_rfl))) (by kernel_rfl)

theorem law_FindBorders_vc (hC : Cons Try.prog [(f_find_Border, find_Border_ct), (f_ref_FindBorder, ref_FindBorder_ct), (f_law_sameInts, law_sameInts_ct)])
    (H : ∀ (s : List UInt8), (s.length.le 140737488351232) →
  fitS s ∧
  fitS s ∧
    (fitL (findBorder s).fst ∧ fitL (findBorder s).fst) ∧
      bo (bo ((findBorder s).fst = (findBorder s).fst) = true ∧ (findBorder s).snd = (findBorder s).snd) = true) :
    Con Try.prog f_law_FindBorders law_FindBorders_ct := fun x hx =>
  con_eq hC (L := []) (trivial) law_FindBorders_ok (ct := law_FindBorders_ct) (depth := 0) (by kernel_rfl) x (H (@id (List UInt8) x) (mpr' hx (by kernel_rfl))) (by kernel_rfl)

end Go.Proofs.Ytgnhlecfladigaa
