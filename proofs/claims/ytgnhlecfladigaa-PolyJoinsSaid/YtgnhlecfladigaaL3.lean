/- The law of joined numbers: what its two functions answer, and that the law answers true. Conditions: none. -/
import Derived.Test.YtgnhlecfladigaaL1
import Derived.Test.YtgnhlecfladigaaVxU
set_option linter.unusedVariables false
set_option linter.unusedSimpArgs false
set_option maxRecDepth 100000
namespace Go.Proofs.Ytgnhlecfladigaa
open Go.Vc

theorem mulB {a d : Int} (h1 : 0 ≤ a) (h2 : a < 2147483647) (h3 : 0 ≤ d) (h4 : d < 2147483647) : 0 ≤ a * d ∧ a * d ≤ 4611686009837453316 := by
  refine ⟨Int.mul_nonneg h1 h3, ?_⟩
  have := Int.mul_le_mul (show a ≤ 2147483646 by omega) (show d ≤ 2147483646 by omega) h3 (by omega)
  omega
abbrev polyOk (a b : Int) : Prop := 0 ≤ a ∧ a < 2147483647 ∧ 0 < b ∧ b < 2147483647
def polyJoinV (a b c d : Int) : AVal := if polyOk a b ∧ polyOk c d then .tup [.agg [.int .i64 ((a * d + c).tmod 2147483647), .int .i64 ((b * d).tmod 2147483647)], .int .i64 0] else .tup [.agg [.int .i64 0, .int .i64 0], .int .i64 4]

theorem tmod_tmod_add (x c : Int) (hx : 0 ≤ x) (hc : 0 ≤ c) : (x.tmod 2147483647 + c).tmod 2147483647 = (x + c).tmod 2147483647 := by
  have h1 : x.tmod 2147483647 = x % 2147483647 := Int.tmod_eq_emod_of_nonneg hx
  have h2 : 0 ≤ x % 2147483647 := Int.emod_nonneg _ (by decide)
  rw [h1, Int.tmod_eq_emod_of_nonneg (by omega), Int.tmod_eq_emod_of_nonneg (by omega)]
  omega

theorem poly_Join_spec (a b c d : Int) : ACalls Try.prog f_poly_Join [.agg [.int .i64 a, .int .i64 b], .agg [.int .i64 c, .int .i64 d]] [] (fun r _ => r = polyJoinV a b c d) := by
  have hm : polyOk a b → polyOk c d → (0 ≤ a * d ∧ a * d ≤ 4611686009837453316) ∧ (0 ≤ b * d ∧ b * d ≤ 4611686009837453316) := fun h1 h2 => ⟨mulB h1.1 h1.2.1 (by omega) h2.2.2.2, mulB (by omega) h1.2.2.2 (by omega) h2.2.2.2⟩
  refine poly_Join_fun ?_ (by simp)
  repeat' ((conv => whnf) <;> first | exact noTF | exact noFT | intro _ | refine And.intro ?_ ?_ | exact Nat.le_of_ble_eq_true rfl | exact rfl)
  refine (poly_May_spec a b).use fun r h => ?_
  subst h
  repeat' ((conv => whnf) <;> first | exact noTF | exact noFT | intro _ | refine And.intro ?_ ?_ | exact Nat.le_of_ble_eq_true rfl | exact rfl)
  all_goals first | (refine (poly_May_spec c d).use fun r h => ?_; subst h) | skip
  all_goals (repeat' ((conv => whnf) <;> first | exact noTF | exact noFT | intro _ | refine And.intro ?_ ?_ | exact Nat.le_of_ble_eq_true rfl | exact rfl))
  all_goals first
    | (simp only [decide_eq_true_eq, decide_eq_false_iff_not, Bool.not_eq_true', Bool.not_eq_false', polyOk] at *; omega)
    | ((conv => whnf); unfold polyJoinV; simp only [decide_eq_true_eq, decide_eq_false_iff_not, Bool.not_eq_true', Bool.not_eq_false', polyOk] at *; rw [if_neg (by omega)])
    | ((conv => whnf); unfold polyJoinV; simp only [decide_eq_true_eq, decide_eq_false_iff_not, Bool.not_eq_true', Bool.not_eq_false', polyOk] at *; rw [if_pos (by omega)])

theorem ref_PolyJoin_spec (a b c d : Int) : ACalls Try.prog f_ref_PolyJoin [.agg [.int .i64 a, .int .i64 b], .agg [.int .i64 c, .int .i64 d]] [] (fun r _ => r = polyJoinV a b c d) := by
  have hm : polyOk a b → polyOk c d → (0 ≤ a * d ∧ a * d ≤ 4611686009837453316) ∧ (0 ≤ d * b ∧ d * b ≤ 4611686009837453316) := fun h1 h2 => ⟨mulB h1.1 h1.2.1 (by omega) h2.2.2.2, mulB (by omega) h2.2.2.2 (by omega) h1.2.2.2⟩
  have hb : 0 ≤ a * d → 0 ≤ (a * d).tmod 2147483647 ∧ (a * d).tmod 2147483647 < 2147483647 := fun h => by
    rw [Int.tmod_eq_emod_of_nonneg h]; omega
  have hc : 0 ≤ a * d → 0 ≤ c → ((a * d).tmod 2147483647 + c).tmod 2147483647 = (a * d + c).tmod 2147483647 := tmod_tmod_add (a * d) c
  refine ref_PolyJoin_fun ?_ (by simp)
  repeat' ((conv => whnf) <;> first | exact noTF | exact noFT | intro _ | refine And.intro ?_ ?_ | exact Nat.le_of_ble_eq_true rfl | exact rfl)
  refine (ref_PolyMay_spec a b).use fun r h => ?_
  subst h
  repeat' ((conv => whnf) <;> first | exact noTF | exact noFT | intro _ | refine And.intro ?_ ?_ | exact Nat.le_of_ble_eq_true rfl | exact rfl)
  all_goals first | (refine (ref_PolyMay_spec c d).use fun r h => ?_; subst h) | skip
  all_goals (repeat' ((conv => whnf) <;> first | exact noTF | exact noFT | intro _ | refine And.intro ?_ ?_ | exact Nat.le_of_ble_eq_true rfl | exact rfl))
  all_goals first
    | (simp only [decide_eq_true_eq, decide_eq_false_iff_not, Bool.not_eq_true', Bool.not_eq_false', polyOk] at *; omega)
    | ((conv => whnf); unfold polyJoinV; simp only [decide_eq_true_eq, decide_eq_false_iff_not, Bool.not_eq_true', Bool.not_eq_false', polyOk] at *; rw [if_neg (by omega)])
    | ((conv => whnf); unfold polyJoinV; simp only [decide_eq_true_eq, decide_eq_false_iff_not, Bool.not_eq_true', Bool.not_eq_false', polyOk] at *; rw [if_pos (by omega), hc (by omega) (by omega), Int.mul_comm d b])

theorem polyJoins_law (x : Ts polyJoins_tys) (_ : okTs polyJoins_tys x) : ACalls Try.prog f_law_PolyJoins (encAs polyJoins_tys x) [] (fun r _ => r = .bool true) := by
  obtain ⟨⟨a, b⟩, c, d⟩ := x
  show ACalls Try.prog f_law_PolyJoins [.agg [.int .i64 a, .int .i64 b], .agg [.int .i64 c, .int .i64 d]] [] _
  refine law_PolyJoins_fun ?_ (by simp)
  have main : ∀ x y z : Int, polyJoinV a b c d = .tup [.agg [.int .i64 x, .int .i64 y], .int .i64 z] → vcFun Try.prog law_PolyJoins_c law_PolyJoins_r [.agg [.int .i64 a, .int .i64 b], .agg [.int .i64 c, .int .i64 d]] [] (fun r _ => r = .bool true) := fun x y z e => by
    repeat' ((conv => whnf) <;> first | exact noTF | exact noFT | intro _ | refine And.intro ?_ ?_ | exact Nat.le_of_ble_eq_true rfl | exact rfl)
    refine (poly_Join_spec a b c d).use fun r h => ?_
    rw [e] at h
    subst h
    repeat' ((conv => whnf) <;> first | exact noTF | exact noFT | intro _ | refine And.intro ?_ ?_ | exact Nat.le_of_ble_eq_true rfl | exact rfl)
    refine (ref_PolyJoin_spec a b c d).use fun r h => ?_
    rw [e] at h
    subst h
    repeat' ((conv => whnf) <;> first | exact noTF | exact noFT | intro _ | refine And.intro ?_ ?_ | exact Nat.le_of_ble_eq_true rfl | exact rfl)
    all_goals (conv => whnf)
    all_goals first | (simp; done) | simp_all
  by_cases hc : polyOk a b ∧ polyOk c d
  · exact main _ _ _ (if_pos hc)
  · exact main _ _ _ (if_neg hc)
end Go.Proofs.Ytgnhlecfladigaa
