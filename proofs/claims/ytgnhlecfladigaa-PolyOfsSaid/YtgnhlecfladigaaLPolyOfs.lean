/- The contracts of the functions that the law reaches, and that of the law. Conditions: none. -/
import Derived.Test.YtgnhlecfladigaaWPolyOfs
set_option linter.unusedVariables false
set_option linter.unusedSimpArgs false
set_option maxRecDepth 100000
namespace Go.Proofs.Ytgnhlecfladigaa
open Go.Vc Go.Fu

theorem poly_Of_hC : Cons Try.prog [] := trivial
theorem poly_Of_con : Con Try.prog f_poly_Of poly_Of_ct := poly_Of_vc poly_Of_hC fun s hs => by
  simp only [inI_iff, true_and, and_true, ne_eq, Int.reduceEq, not_false_eq_true, Int.toNat_zero]
  refine ⟨fun x a b => 0 ≤ x ∧ x ≤ s.length ∧ (a, b) = polyOf (s.take x.toNat), fun x _ _ => (s.length - x).toNat, by simp [polyOf], fun x a b ⟨h0, h1, h2⟩ => ?_⟩
  dsimp only
  refine ⟨fun h => ?_, fun h => ?_⟩
  · have bd := polyOf_bd (s.take x.toNat)
    rw [← h2] at bd
    simp only at bd
    have hb := byte_lt (gt s x)
    have hb0 := byte_nn (gt s x)
    unfold fitS at hs
    rw [Int.tmod_eq_emod_of_nonneg (by omega), Int.tmod_eq_emod_of_nonneg (by omega)]
    refine ⟨by omega, h0, h, by omega, by omega, by omega, by omega, ⟨by omega, by omega, ?_⟩, by omega⟩
    rw [take_gt h0 h, polyOf_snoc, ← h2]
    rfl
  · rw [h2, List.take_of_length_le (by omega)]

theorem ref_PolyOf_hC : Cons Try.prog [] := trivial
theorem ref_PolyOf_con : Con Try.prog f_ref_PolyOf ref_PolyOf_ct := ref_PolyOf_vc ref_PolyOf_hC fun s hs => by
  simp only [inI_iff, true_and, and_true, ne_eq, Int.reduceEq, not_false_eq_true, Int.toNat_zero]
  unfold fitS at hs
  refine ⟨by omega, fun p q i => -1 ≤ i ∧ i < s.length ∧ (q, p) = polyOf (s.drop (i + 1).toNat), fun _ _ i => (i + 1).toNat, ⟨by omega, by omega, ?_⟩, fun p q i ⟨h0, h1, h2⟩ => ?_⟩
  · rw [List.drop_of_length_le (by omega)]; rfl
  dsimp only
  refine ⟨fun h => ?_, fun h => ?_⟩
  · have bd := polyOf_bd (s.drop (i + 1).toNat)
    rw [← h2] at bd
    simp only at bd
    have hb := byte_lt (gt s i)
    have hb0 := byte_nn (gt s i)
    have m : 0 ≤ ((gt s i).toNat + 1 : Int) * p ∧ ((gt s i).toNat + 1 : Int) * p ≤ 4611686009837453316 := mulB (by omega) (by omega) bd.2.2.1 bd.2.2.2
    rw [Int.tmod_eq_emod_of_nonneg (by omega), Int.tmod_eq_emod_of_nonneg (by omega)]
    refine ⟨h, h1, by omega, by omega, by omega, by omega, by omega, ⟨by omega, by omega, ?_⟩, by omega⟩
    rw [show i - 1 + 1 = i by omega, drop_gt h h1, polyOf_cons, ← h2]
    exact Prod.ext (by simp only; omega) rfl
  · rw [h2, show (i + 1).toNat = 0 by omega, List.drop_zero]

theorem law_PolyOfs_hC : Cons Try.prog [(f_poly_Of, poly_Of_ct), (f_ref_PolyOf, ref_PolyOf_ct)] := ⟨poly_Of_con, ref_PolyOf_con, trivial⟩
theorem law_PolyOfs_con : Con Try.prog f_law_PolyOfs law_PolyOfs_ct := law_PolyOfs_vc law_PolyOfs_hC fun s hs => ⟨hs, hs, by simp⟩

end Go.Proofs.Ytgnhlecfladigaa
