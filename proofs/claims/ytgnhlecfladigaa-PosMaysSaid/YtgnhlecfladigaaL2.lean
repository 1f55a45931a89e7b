/- The law of positions: what its two functions answer, and that the law answers true. Conditions: none. -/
import Derived.Test.YtgnhlecfladigaaL1
import Derived.Test.YtgnhlecfladigaaVxU
set_option linter.unusedVariables false
set_option linter.unusedSimpArgs false
set_option maxRecDepth 100000
namespace Go.Proofs.Ytgnhlecfladigaa
open Go.Vc

abbrev posOk (a b c : Int) : Prop := 0 ≤ a ∧ a ≤ 1099511627776 ∧ 0 ≤ b ∧ b ≤ 1099511627776 ∧ 0 ≤ c ∧ c ≤ 1099511627776 ∧ b + c ≤ a ∧ (0 < b ∨ c = a)
theorem pos_May_spec (a b c : Int) : ACalls Try.prog f_pos_May [.agg [.int .i64 a, .int .i64 b, .int .i64 c]] [] (fun r _ => r = .bool (decide (posOk a b c))) := by
  refine pos_May_fun ?_ (by simp)
  repeat' ((conv => whnf) <;> first | exact noTF | exact noFT | intro _ | refine And.intro ?_ ?_ | exact Nat.le_of_ble_eq_true rfl | exact rfl)
  all_goals first | (simp only [decide_eq_true_eq, decide_eq_false_iff_not] at *; omega) | skip
  all_goals (conv => whnf)
  all_goals refine congrArg AVal.bool (Bool.eq_iff_iff.2 ?_)
  all_goals simp only [decide_eq_true_eq, decide_eq_false_iff_not, Bool.false_eq_true, Bool.true_eq_false, false_iff, true_iff, posOk] at *
  all_goals omega

theorem idx3 (a b c : Int) (j : Nat) (h : j < 3) : takeN 1 (List.drop (0 + j * 1) [.int .i64 a, .int .i64 b, .int .i64 c]) = some [.int .i64 (if j = 0 then a else if j = 1 then b else c)] := by
  have : j = 0 ∨ j = 1 ∨ j = 2 := by omega
  rcases this with rfl | rfl | rfl <;> rfl

theorem ref_PosMay_spec (a b c : Int) : ACalls Try.prog f_ref_PosMay [.agg [.int .i64 a, .int .i64 b, .int .i64 c]] [] (fun r _ => r = .bool (decide (posOk a b c))) := by
  refine ref_PosMay_fun ?_ (by simp)
  repeat' ((conv => whnf) <;> first | exact noTF | exact noFT | intro _ | refine And.intro ?_ ?_ | exact Nat.le_of_ble_eq_true rfl | exact rfl)
  rename_i v w
  (conv => whnf)
  refine ⟨fun xs os => ∃ j : Nat, xs = [.int .i64 (j : Int)] ∧ os = [.row v 0 [.int .i64 a, .int .i64 b, .int .i64 c], .row w 1 [.int .i64 a, .int .i64 b, .int .i64 c]] ∧ j ≤ 3 ∧
    (0 < j → 0 ≤ a ∧ a ≤ 1099511627776) ∧ (1 < j → 0 ≤ b ∧ b ≤ 1099511627776) ∧ (2 < j → 0 ≤ c ∧ c ≤ 1099511627776),
    fun xs os => match xs with | [.int _ n] => 3 - n.toNat | _ => 0, ⟨0, rfl, rfl, by omega⟩, ?_⟩
  (conv => whnf)
  intro x o1 o2 ⟨j, h1, h2, h3, h4, h5, h6⟩
  cases h1
  cases h2
  repeat' ((conv => whnf) <;> first | exact noTF | exact noFT | intro _ | refine And.intro ?_ ?_ | exact Nat.le_of_ble_eq_true rfl | exact rfl)
  · (conv => whnf)
    refine ⟨j, rfl, ?_⟩
    (conv => whnf)
    refine ⟨by simp only [decide_eq_true_eq, decide_eq_false_iff_not] at *; omega, ?_⟩
    repeat' ((conv => whnf) <;> first | exact noTF | exact noFT | intro _ | refine And.intro ?_ ?_ | exact Nat.le_of_ble_eq_true rfl | exact rfl)
    (conv => whnf)
    refine ⟨_, idx3 a b c j (by simp only [decide_eq_true_eq, decide_eq_false_iff_not] at *; omega), ?_⟩
    repeat' ((conv => whnf) <;> first | exact noTF | exact noFT | intro _ | refine And.intro ?_ ?_ | exact Nat.le_of_ble_eq_true rfl | exact rfl)
    all_goals first
      | ((conv => whnf); refine congrArg AVal.bool (Bool.eq_iff_iff.2 ?_); simp only [decide_eq_true_eq, decide_eq_false_iff_not, Bool.false_eq_true, Bool.true_eq_false, false_iff, true_iff, posOk] at *; omega)
      | (refine ⟨j + 1, rfl, rfl, ?_⟩; simp only [decide_eq_true_eq, decide_eq_false_iff_not] at *; omega)
      | (show 3 - ((j : Int) + 1).toNat < 3 - (j : Int).toNat; simp only [decide_eq_true_eq, decide_eq_false_iff_not] at *; omega)
      | (simp only [decide_eq_true_eq, decide_eq_false_iff_not] at *; omega)
  all_goals first
    | ((conv => whnf); refine congrArg AVal.bool (Bool.eq_iff_iff.2 ?_); simp only [decide_eq_true_eq, decide_eq_false_iff_not, Bool.false_eq_true, Bool.true_eq_false, false_iff, true_iff, posOk] at *; omega)
    | (simp only [decide_eq_true_eq, decide_eq_false_iff_not] at *; omega)

theorem posMays_law (x : Ts posMays_tys) (_ : okTs posMays_tys x) : ACalls Try.prog f_law_PosMays (encAs posMays_tys x) [] (fun r _ => r = .bool true) := by
  obtain ⟨a, b, c⟩ := x
  show ACalls Try.prog f_law_PosMays [.agg [.int .i64 a, .int .i64 b, .int .i64 c]] [] _
  refine law_PosMays_fun ?_ (by simp)
  repeat' ((conv => whnf) <;> first | exact noTF | exact noFT | intro _ | refine And.intro ?_ ?_ | exact Nat.le_of_ble_eq_true rfl | exact rfl)
  (conv => whnf)
  refine ⟨_, (pos_May_spec a b c).det, ?_⟩
  repeat' ((conv => whnf) <;> first | exact noTF | exact noFT | intro _ | refine And.intro ?_ ?_ | exact Nat.le_of_ble_eq_true rfl | exact rfl)
  refine (ref_PosMay_spec a b c).use fun r h => ?_
  subst h
  repeat' ((conv => whnf) <;> first | exact noTF | exact noFT | intro _ | refine And.intro ?_ ?_ | exact Nat.le_of_ble_eq_true rfl | exact rfl)
  all_goals (conv => whnf)
  simp
end Go.Proofs.Ytgnhlecfladigaa
