/- The contracts of the functions that the law reaches, and that of the law. Conditions: none. -/
import Derived.Test.YtcgggoaefceokaaWWrapChecks
set_option linter.unusedVariables false
set_option linter.unusedSimpArgs false
set_option maxRecDepth 100000
namespace Go.Proofs.Ytcgggoaefceokaa
open Go.Vc Go.Fu

theorem wrap_Check_hC : Cons Try.prog [] := trivial
theorem wrap_Check_con : Con Try.prog f_wrap_Check wrap_Check_ct := wrap_Check_vc wrap_Check_hC fun w wide _ => by
  simp only [inI_iff, true_and, and_true, ne_eq, Int.reduceEq, not_false_eq_true, Int.toNat_zero, wrapFault]
  refine ⟨fun q => by rw [if_pos (by omega)], fun q => ⟨fun r => by rw [if_neg (by omega), if_pos (by omega)], fun r => ⟨fun x f => 0 ≤ x ∧ x ≤ w.length ∧ f = wide ∧ ∀ j : Int, 0 ≤ j → j < x → 1 ≤ gt w j ∧ gt w j ≤ wide, fun x _ => (w.length - x).toNat, ⟨by omega, by omega, rfl, fun j a b => by omega⟩, ?_⟩⟩⟩
  rintro x f ⟨h0, h1, h2, h3⟩
  dsimp only
  subst h2
  refine ⟨fun t => ⟨h0, t, fun u => ⟨fun _ => by rw [if_neg (by omega), if_pos (.inr (.inr ⟨gt w x, gt_mem h0 t, u⟩))], fun c => by omega⟩, fun u => ⟨by omega, ⟨by omega, by omega, rfl, fun j a b => ?_⟩, by omega⟩⟩, fun t => ⟨fun c => by omega, fun _ => ?_⟩⟩
  · by_cases e : j = x
    · rw [e]; omega
    · exact h3 j a (by omega)
  · rw [if_neg (by omega), if_neg]
    rintro (c | c | ⟨n, hn, c⟩)
    · omega
    · omega
    · obtain ⟨j, a, b, rfl⟩ := mem_gt hn
      have := h3 j a (by omega)
      omega

theorem ref_WrapFault_hC : Cons Try.prog [] := trivial
theorem ref_WrapFault_con : Con Try.prog f_ref_WrapFault ref_WrapFault_ct := ref_WrapFault_vc ref_WrapFault_hC fun w wide _ => by
  simp only [inI_iff, true_and, and_true, ne_eq, Int.reduceEq, not_false_eq_true, Int.toNat_zero, wrapFault]
  refine ⟨fun q => by rw [if_pos (by omega)], fun q => ⟨fun r => by rw [if_neg (by omega), if_pos (by omega)], fun r => ⟨fun x => 0 ≤ x ∧ x ≤ w.length ∧ ∀ j : Int, 0 ≤ j → j < x → 1 ≤ gt w j ∧ gt w j ≤ wide, fun x => (w.length - x).toNat, ⟨by omega, by omega, fun j a b => by omega⟩, ?_⟩⟩⟩
  rintro x ⟨h0, h1, h3⟩
  dsimp only
  refine ⟨fun t => ⟨h0, t, fun u => by rw [if_neg (by omega), if_pos (.inr (.inr ⟨gt w x, gt_mem h0 t, u⟩))], fun u => ⟨by omega, ⟨by omega, by omega, fun j a b => ?_⟩, by omega⟩⟩, fun t => ?_⟩
  · by_cases e : j = x
    · rw [e]; omega
    · exact h3 j a (by omega)
  · rw [if_neg (by omega), if_neg]
    rintro (c | c | ⟨n, hn, c⟩)
    · omega
    · omega
    · obtain ⟨j, a, b, rfl⟩ := mem_gt hn
      have := h3 j a (by omega)
      omega

theorem law_WrapChecks_hC : Cons Try.prog [(f_wrap_Check, wrap_Check_ct), (f_ref_WrapFault, ref_WrapFault_ct)] := ⟨wrap_Check_con, ref_WrapFault_con, trivial⟩
theorem law_WrapChecks_con : Con Try.prog f_law_WrapChecks law_WrapChecks_ct := law_WrapChecks_vc law_WrapChecks_hC fun w wide _ => by simp

end Go.Proofs.Ytcgggoaefceokaa
