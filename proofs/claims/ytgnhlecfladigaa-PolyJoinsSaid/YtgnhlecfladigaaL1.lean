/- The first laws' contracts: what each function of theirs answers, and that the law answers true. Conditions: none. -/
import Derived.Test.YtgnhlecfladigaaGen
import Derived.Test.YtgnhlecfladigaaBase
import Derived.Test.YtgnhlecfladigaaVxU
set_option linter.unusedVariables false
set_option linter.unusedSimpArgs false
set_option maxRecDepth 100000
namespace Go.Proofs.Ytgnhlecfladigaa
open Go.Vc

theorem poly_May_spec (a b : Int) : ACalls Try.prog f_poly_May [.agg [.int .i64 a, .int .i64 b]] [] (fun r _ => r = .bool (decide (0 ≤ a ∧ a < 2147483647 ∧ 0 < b ∧ b < 2147483647))) := by
  refine poly_May_fun ?_ (by simp)
  repeat' ((conv => whnf) <;> first | exact noTF | exact noFT | intro _ | refine And.intro ?_ ?_)
  all_goals (conv => whnf)
  all_goals refine congrArg AVal.bool (Bool.eq_iff_iff.2 ?_)
  all_goals simp only [decide_eq_true_eq, decide_eq_false_iff_not, Bool.false_eq_true, Bool.true_eq_false, false_iff, true_iff] at *
  all_goals omega
theorem ref_PolyMay_spec (a b : Int) : ACalls Try.prog f_ref_PolyMay [.agg [.int .i64 a, .int .i64 b]] [] (fun r _ => r = .bool (decide (0 ≤ a ∧ a < 2147483647 ∧ 0 < b ∧ b < 2147483647))) := by
  refine ref_PolyMay_fun ?_ (by simp)
  repeat' ((conv => whnf) <;> first | exact noTF | exact noFT | intro _ | refine And.intro ?_ ?_)
  all_goals (conv => whnf)
  all_goals refine congrArg AVal.bool (Bool.eq_iff_iff.2 ?_)
  all_goals simp only [decide_eq_true_eq, decide_eq_false_iff_not, Bool.false_eq_true, Bool.true_eq_false, false_iff, true_iff] at *
  all_goals omega
theorem polyMays_law (x : Ts polyMays_tys) (_ : okTs polyMays_tys x) : ACalls Try.prog f_law_PolyMays (encAs polyMays_tys x) [] (fun r _ => r = .bool true) := by
  obtain ⟨a, b⟩ := x
  show ACalls Try.prog f_law_PolyMays [.agg [.int .i64 a, .int .i64 b]] [] _
  refine law_PolyMays_fun ?_ (by simp)
  repeat' ((conv => whnf) <;> first | exact noTF | exact noFT | intro _ | refine And.intro ?_ ?_)
  (conv => whnf)
  refine ⟨_, (poly_May_spec a b).det, ?_⟩
  repeat' ((conv => whnf) <;> first | exact noTF | exact noFT | intro _ | refine And.intro ?_ ?_)
  refine (ref_PolyMay_spec a b).use fun r h => ?_
  subst h
  repeat' ((conv => whnf) <;> first | exact noTF | exact noFT | intro _ | refine And.intro ?_ ?_)
  all_goals (conv => whnf)
  simp

end Go.Proofs.Ytgnhlecfladigaa
