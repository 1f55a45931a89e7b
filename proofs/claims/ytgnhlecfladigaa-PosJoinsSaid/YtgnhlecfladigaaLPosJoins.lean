/- The contracts of the functions that the law reaches, and that of the law. Conditions: none. -/
import Derived.Test.YtgnhlecfladigaaWPosJoins
set_option linter.unusedVariables false
set_option linter.unusedSimpArgs false
set_option maxRecDepth 100000
namespace Go.Proofs.Ytgnhlecfladigaa
open Go.Vc Go.Fu

theorem pos_May_hC : Cons Try.prog [] := trivial
theorem pos_May_con : Con Try.prog f_pos_May pos_May_ct := pos_May_vc pos_May_hC fun p _ => (by
  simp only [bo_eq_bo, false_bo, posOk, inI_iff]
  omega)

theorem pos_Join_hC : Cons Try.prog [(f_pos_May, pos_May_ct)] := ⟨pos_May_con, trivial⟩
theorem pos_Join_con : Con Try.prog f_pos_Join pos_Join_ct := pos_Join_vc pos_Join_hC fun a b _ => by
  simp only [prod_eta, bo_true, inI_iff, posJoin]
  refine ⟨trivial, fun _ => trivial, fun h => ?_, fun h => ?_⟩
  · rw [if_neg fun q => h.elim (fun h => h q.1) (fun h => h q.2.1)]
    exact ⟨rfl, rfl⟩
  · have h1 : posOk a := Classical.byContradiction fun q => h (.inl q)
    have h2 : posOk b := Classical.byContradiction fun q => h (.inr q)
    have b1 := h1
    have b2 := h2
    unfold posOk at b1 b2
    refine ⟨by omega, by omega, fun hz => ⟨by omega, trivial, fun q => ?_, fun q => ?_⟩, fun hz => ⟨trivial, fun q => ?_, fun q => ?_⟩⟩
    all_goals
      have e : posAdd a b = (a.1 + b.1, a.2.1 + b.2.1, if b.2.1 = 0 then a.2.2 + b.2.2 else b.2.2) := rfl
      first | rw [if_pos hz] at e | rw [if_neg hz] at e
      try rw [Int.add_comm b.2.2 a.2.2] at q
      try rw [Int.add_comm b.2.2 a.2.2]
      rw [← e] at q
    · rw [if_neg fun z => q z.2.2]; exact ⟨rfl, rfl⟩
    · rw [if_pos ⟨h1, h2, Classical.byContradiction q⟩, e]; exact ⟨rfl, rfl⟩
    · rw [if_neg fun z => q z.2.2]; exact ⟨rfl, rfl⟩
    · rw [if_pos ⟨h1, h2, Classical.byContradiction q⟩, e]; exact ⟨rfl, rfl⟩

theorem ref_PosMay_hC : Cons Try.prog [] := trivial
theorem ref_PosMay_con : Con Try.prog f_ref_PosMay ref_PosMay_ct := ref_PosMay_vc ref_PosMay_hC fun p _ => (by
  obtain ⟨a, b, c⟩ := p
  have g : ∀ x : Int, 0 ≤ x → x < 3 → gt [a, b, c] x = if x = 0 then a else if x = 1 then b else c := fun x h0 h1 => by
    have : x = 0 ∨ x = 1 ∨ x = 2 := by omega
    rcases this with rfl | rfl | rfl <;> rfl
  refine ⟨fun x => 0 ≤ x ∧ x ≤ 3 ∧ (0 < x → 0 ≤ a ∧ a ≤ 1099511627776) ∧ (1 < x → 0 ≤ b ∧ b ≤ 1099511627776) ∧ (2 < x → 0 ≤ c ∧ c ≤ 1099511627776), fun x => (3 - x).toNat, ⟨rfl, rfl, rfl, rfl, by omega⟩, fun x hx => ⟨fun h => ?_, fun h => ?_⟩⟩
  · rw [g x hx.1 (by omega)]
    simp only [inI_iff, false_bo, posOk, true_and]
    refine ⟨by omega, by omega, fun q => ?_, fun q => ⟨by omega, ?_, by omega⟩⟩
    · split at q
      · omega
      · split at q <;> omega
    · split at q
      · omega
      · split at q <;> omega
  · simp only [bo_eq_bo, inI_iff, posOk]
    omega)

theorem ref_PosJoin_hC : Cons Try.prog [(f_ref_PosMay, ref_PosMay_ct)] := ⟨ref_PosMay_con, trivial⟩
theorem ref_PosJoin_con : Con Try.prog f_ref_PosJoin ref_PosJoin_ct := ref_PosJoin_vc ref_PosJoin_hC fun a b _ => by
  simp only [prod_eta, bo_true, inI_iff, posJoin]
  refine ⟨trivial, fun _ => trivial, fun h => ?_, fun h => ?_⟩
  · rw [if_neg fun q => h.elim (fun h => h q.1) (fun h => h q.2.1)]
    exact ⟨rfl, rfl⟩
  · have h1 : posOk a := Classical.byContradiction fun q => h (.inl q)
    have h2 : posOk b := Classical.byContradiction fun q => h (.inr q)
    have b1 := h1
    have b2 := h2
    unfold posOk at b1 b2
    have e0 : posAdd a b = (b.1 + a.1, b.2.1 + a.2.1, if b.2.1 = 0 then a.2.2 + b.1 else b.2.2) := by
      unfold posAdd
      rw [Int.add_comm a.1, Int.add_comm a.2.1]
      split
      · rw [show b.2.2 = b.1 by omega]
      · rfl
    refine ⟨fun hz => ⟨by omega, by omega, by omega, trivial, fun q => ?_, fun q => ?_⟩, fun hz => ⟨by omega, by omega, trivial, fun q => ?_, fun q => ?_⟩⟩
    all_goals
      have e := e0
      first | rw [if_pos hz] at e | rw [if_neg hz] at e
      rw [← e] at q
    · rw [if_neg fun z => q z.2.2]; exact ⟨rfl, rfl⟩
    · rw [if_pos ⟨h1, h2, Classical.byContradiction q⟩, e]; exact ⟨rfl, rfl⟩
    · rw [if_neg fun z => q z.2.2]; exact ⟨rfl, rfl⟩
    · rw [if_pos ⟨h1, h2, Classical.byContradiction q⟩, e]; exact ⟨rfl, rfl⟩

theorem law_PosJoins_hC : Cons Try.prog [(f_pos_Join, pos_Join_ct), (f_ref_PosJoin, ref_PosJoin_ct)] := ⟨pos_Join_con, ref_PosJoin_con, trivial⟩
theorem law_PosJoins_con : Con Try.prog f_law_PosJoins law_PosJoins_ct := law_PosJoins_vc law_PosJoins_hC fun a b _ => (by simp)

end Go.Proofs.Ytgnhlecfladigaa
