/- The contracts of the functions that the law reaches, and that of the law. Conditions: none. -/
import Derived.Test.YtgnhlecfladigaaWNames
set_option linter.unusedVariables false
set_option linter.unusedSimpArgs false
set_option maxRecDepth 100000
namespace Go.Proofs.Ytgnhlecfladigaa
open Go.Vc Go.Fu

theorem law_Names_hC : Cons Try.prog [] := trivial
theorem law_Names_con : Con Try.prog f_law_Names law_Names_ct := law_Names_vc law_Names_hC fun _ => by
  have all : ∀ (n : Nat) (p : Int → Prop), (∀ k : Nat, k < n → p k) → ∀ i : Int, 0 ≤ i → i < n → p i := fun n p h i h0 h1 => by
    have := h i.toNat (by omega)
    rwa [Int.toNat_of_nonneg h0] at this
  simp only [inI_iff, true_and, and_true, ne_eq, Int.reduceEq, not_false_eq_true, Int.toNat_zero]
  have e1 : ∀ i : Int, 0 ≤ i → i < (11 : Nat) → gt [(0 : Int), 1, 2, 3, 4, 5, 6, 7, 8, 9, 10] i = i := all 11 _ (by decide)
  refine ⟨fun i => 0 ≤ i ∧ i ≤ 11, fun i => (11 - i).toNat, by omega, fun i h => ?_⟩
  dsimp only at h ⊢
  refine ⟨fun q => ⟨h.1, q, fun r => absurd (e1 i h.1 q) r, fun r => by omega⟩, fun q => ?_⟩
  refine ⟨fun i => 0 ≤ i ∧ i ≤ 23, fun i => (23 - i).toNat, by omega, fun i h => ?_⟩
  dsimp only at h ⊢
  refine ⟨fun q => ⟨h.1, q, h.1, q, fun r => absurd trivial r, fun r => by omega⟩, fun q => ?_⟩
  refine ⟨fun i => 0 ≤ i ∧ i ≤ 18, fun i => (18 - i).toNat, by omega, fun i h => ?_⟩
  dsimp only at h ⊢
  refine ⟨fun q => ⟨h.1, q, h.1, q, fun r => absurd trivial r, fun r => by omega⟩, fun q => ?_⟩
  simp

end Go.Proofs.Ytgnhlecfladigaa
