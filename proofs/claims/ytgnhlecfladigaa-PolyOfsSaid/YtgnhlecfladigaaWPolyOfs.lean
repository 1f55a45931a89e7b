/- The typed conditions of the functions, printed by a program of the claim's author; each gives the contract of its function. Conditions: none. -/
import Derived.Test.YtgnhlecfladigaaGPolyOfs
import Derived.Test.YtgnhlecfladigaaVpA
import Derived.Test.YtgnhlecfladigaaVpB
import Derived.Test.YtgnhlecfladigaaVpC
import Derived.Test.YtgnhlecfladigaaBase
set_option linter.unusedVariables false
set_option linter.unusedSimpArgs false
set_option maxRecDepth 100000
namespace Go.Proofs.Ytgnhlecfladigaa
open Go.Vc Go.Fu

theorem poly_Of_vc (hC : Cons Try.prog [])
    (H : ∀ (text : List UInt8), (fitS text) →
  ∃ (I : Int → Int → Int → Prop),
  ∃ (m : Int → Int → Int → Nat),
    ((0 : Int) = (0 : Int) ∧ (0 : Int) = (0 : Int) ∧ I (0 : Int) (0 : Int) (1 : Int)) ∧
      ∀ (x h h_1 : Int),
        I x h h_1 →
          (x < (↑text.length : Int) →
              inI64 (h * (257 : Int)) ∧
                (0 : Int) ≤ x ∧
                  x < (↑text.length : Int) ∧
                    inI64 (h * (257 : Int) + (↑(gt text x).toNat : Int)) ∧
                      inI64 (h * (257 : Int) + (↑(gt text x).toNat : Int) + (1 : Int)) ∧
                        (2147483647 : Int) ≠ (0 : Int) ∧
                          inI64 (h_1 * (257 : Int)) ∧
                            (2147483647 : Int) ≠ (0 : Int) ∧
                              inI64 (x + (1 : Int)) ∧
                                (0 : Int) = (0 : Int) ∧
                                  (0 : Int) = (0 : Int) ∧
                                    I (x + (1 : Int))
                                        ((h * (257 : Int) + (↑(gt text x).toNat : Int) + (1 : Int)).tmod
                                          (2147483647 : Int))
                                        ((h_1 * (257 : Int)).tmod (2147483647 : Int)) ∧
                                      m (x + (1 : Int))
                                          ((h * (257 : Int) + (↑(gt text x).toNat : Int) + (1 : Int)).tmod
                                            (2147483647 : Int))
                                          ((h_1 * (257 : Int)).tmod (2147483647 : Int)) <
                                        m x h h_1) ∧
            (¬x < (↑text.length : Int) → (h, h_1) = polyOf text)) :
    Con Try.prog f_poly_Of poly_Of_ct := fun x hx =>
  con_eq hC (L := []) (trivial) poly_Of_ok (ct := poly_Of_ct) (depth := 0) (by kernel_rfl) x (H (@id (List UInt8) x) (mpr' hx (by kernel_rfl))) (by kernel_rfl)

theorem ref_PolyOf_vc (hC : Cons Try.prog [])
    (H : ∀ (text : List UInt8), (fitS text) →
  inI64 ((↑text.length : Int) - (1 : Int)) ∧
  ∃ (I : Int → Int → Int → Prop),
    ∃ (m : Int → Int → Int → Nat),
      ((0 : Int) = (0 : Int) ∧ (0 : Int) = (0 : Int) ∧ I (1 : Int) (0 : Int) ((↑text.length : Int) - (1 : Int))) ∧
        ∀ (power sum i : Int),
          I power sum i →
            ((0 : Int) ≤ i →
                (0 : Int) ≤ i ∧
                  i < (↑text.length : Int) ∧
                    inI64 ((↑(gt text i).toNat : Int) + (1 : Int)) ∧
                      inI64 (((↑(gt text i).toNat : Int) + (1 : Int)) * power) ∧
                        inI64 (sum + ((↑(gt text i).toNat : Int) + (1 : Int)) * power) ∧
                          (2147483647 : Int) ≠ (0 : Int) ∧
                            inI64 (power * (257 : Int)) ∧
                              (2147483647 : Int) ≠ (0 : Int) ∧
                                inI64 (i - (1 : Int)) ∧
                                  (0 : Int) = (0 : Int) ∧
                                    (0 : Int) = (0 : Int) ∧
                                      I ((power * (257 : Int)).tmod (2147483647 : Int))
                                          ((sum + ((↑(gt text i).toNat : Int) + (1 : Int)) * power).tmod
                                            (2147483647 : Int))
                                          (i - (1 : Int)) ∧
                                        m ((power * (257 : Int)).tmod (2147483647 : Int))
                                            ((sum + ((↑(gt text i).toNat : Int) + (1 : Int)) * power).tmod
                                              (2147483647 : Int))
                                            (i - (1 : Int)) <
                                          m power sum i) ∧
              (¬(0 : Int) ≤ i → (sum, power) = polyOf text)) :
    Con Try.prog f_ref_PolyOf ref_PolyOf_ct := fun x hx =>
  con_eq hC (L := []) (trivial) ref_PolyOf_ok (ct := ref_PolyOf_ct) (depth := 0) (by kernel_rfl) x (H (@id (List UInt8) x) (mpr' hx (by kernel_rfl))) (by kernel_rfl)

theorem law_PolyOfs_vc (hC : Cons Try.prog [(f_poly_Of, poly_Of_ct), (f_ref_PolyOf, ref_PolyOf_ct)])
    (H : ∀ (text : List UInt8), (text.length.le 140737488351232) →
  fitS text ∧ fitS text ∧ bo ((polyOf text).fst = (polyOf text).fst ∧ (polyOf text).snd = (polyOf text).snd) = true) :
    Con Try.prog f_law_PolyOfs law_PolyOfs_ct := fun x hx =>
  con_eq hC (L := []) (trivial) law_PolyOfs_ok (ct := law_PolyOfs_ct) (depth := 0) (by kernel_rfl) x (H (@id (List UInt8) x) (mpr' hx (by kernel_rfl))) (by kernel_rfl)

end Go.Proofs.Ytgnhlecfladigaa
