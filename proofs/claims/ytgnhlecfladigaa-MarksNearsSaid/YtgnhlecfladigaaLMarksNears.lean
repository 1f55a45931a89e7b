/- The contracts of the functions that the law reaches, and that of the law. Conditions: none. -/
import Derived.Test.YtgnhlecfladigaaWMarksNears
set_option linter.unusedVariables false
set_option linter.unusedSimpArgs false
set_option maxRecDepth 100000
namespace Go.Proofs.Ytgnhlecfladigaa
open Go.Vc Go.Fu

theorem marks_Near_hC : Cons Try.prog [] := trivial
theorem marks_Near_con : Con Try.prog f_marks_Near marks_Near_ct := marks_Near_vc marks_Near_hC fun ms at_ right _ => by
  simp only [inI_iff, true_and, and_true, ne_eq, Int.reduceEq, not_false_eq_true, Int.toNat_zero, marksNear]
  refine ⟨fun h => by rw [if_pos (by omega)]; exact ⟨rfl, rfl⟩, fun h => ?_⟩
  rw [if_neg (by omega)]
  have key : ∀ x : Int, (right = true ∧ (gt ms x).1 < at_ ∨ ¬ right = true ∧ at_ < (gt ms x).1) ↔ nkey right (gt ms x).1 < nkey right at_ := fun x => by
    cases right <;> simp [nkey] <;> omega
  have key2 : ∀ x b : Int, (right = true ∧ (gt ms x).1 < (gt ms b).1 ∨ ¬ right = true ∧ (gt ms b).1 < (gt ms x).1) ↔ nkey right (gt ms x).1 < nkey right (gt ms b).1 := fun x b => by
    cases right <;> simp [nkey] <;> omega
  refine ⟨fun b x => 0 ≤ x ∧ x ≤ ms.length ∧ nearOk (fun i => nkey right (gt ms i).1) (nkey right at_) 0 x b, fun _ x => (ms.length - x).toNat, ⟨by omega, by omega, .inl ⟨rfl, fun i h0 h1 => by omega⟩⟩, ?_⟩
  rintro b x ⟨h0, h1, h2⟩
  dsimp only
  have hb : b = -1 ∨ 0 ≤ b ∧ b < x := by
    rcases h2 with h2 | h2
    · exact .inl h2.1
    · exact .inr ⟨h2.1, h2.2.1⟩
  refine ⟨fun q => ⟨h0, q, fun r => ⟨by omega, ⟨by omega, by omega, near_skip h2 ((key x).1 r)⟩, by omega⟩, fun r => ⟨fun _ _ => by omega, fun _ _ => by omega, fun _ _ _ => by omega, fun _ _ _ => by omega, fun t => ?_, fun t => ?_⟩⟩, fun q => ?_⟩
  · rw [key] at r
    rw [key2] at t
    exact ⟨by omega, ⟨by omega, by omega, near_take h2 h0 (Int.not_lt.1 r) t⟩, by omega⟩
  · rw [key] at r
    rw [key2] at t
    exact ⟨by omega, ⟨by omega, by omega, near_keep h2 (Int.not_lt.1 r) t⟩, by omega⟩
  · have e : x = ms.length := by omega
    rw [e] at h2
    rw [nearest_eq h2]
    exact ⟨fun r => by rw [if_pos r]; exact ⟨rfl, rfl⟩, fun r => by rw [if_neg r]; exact ⟨rfl, rfl⟩⟩

theorem ref_MarksNear_hC : Cons Try.prog [] := trivial
theorem ref_MarksNear_con : Con Try.prog f_ref_MarksNear ref_MarksNear_ct := ref_MarksNear_vc ref_MarksNear_hC fun ms at_ right _ => by
  simp only [inI_iff, true_and, and_true, ne_eq, Int.reduceEq, not_false_eq_true, Int.toNat_zero, marksNear]
  refine ⟨fun h => by rw [if_pos (by omega)]; exact ⟨rfl, rfl⟩, fun h => ⟨by omega, ?_⟩⟩
  rw [if_neg (by omega)]
  have key : ∀ x : Int, (right = true ∧ (gt ms x).1 < at_ ∨ ¬ right = true ∧ at_ < (gt ms x).1) ↔ nkey right (gt ms x).1 < nkey right at_ := fun x => by
    cases right <;> simp [nkey] <;> omega
  have key2 : ∀ (f : Bool) (x b : Int), ((¬ f = true ∨ right = true ∧ (gt ms x).1 ≤ (gt ms b).1) ∨ ¬ right = true ∧ (gt ms b).1 ≤ (gt ms x).1) ↔ (f = false ∨ nkey right (gt ms x).1 ≤ nkey right (gt ms b).1) := fun f x b => by
    cases right <;> cases f <;> simp [nkey] <;> omega
  refine ⟨fun f b i => -1 ≤ i ∧ i < ms.length ∧ 0 ≤ b ∧ nearOk (fun i => nkey right (gt ms i).1) (nkey right at_) (i + 1) ms.length (if f = true then b else -1), fun _ _ i => (i + 1).toNat, ⟨by omega, by omega, by omega, .inl ⟨rfl, fun i h0 h1 => by omega⟩⟩, ?_⟩
  rintro f b i ⟨h0, h1, h3, h2⟩
  dsimp only
  have hb : f = true → b < ms.length := fun hf => by
    rw [if_pos hf] at h2
    rcases h2 with h2 | h2
    · have := h2.1; omega
    · exact h2.2.1
  refine ⟨fun q => ⟨q, h1, fun r => ⟨by omega, ⟨by omega, by omega, h3, ?_⟩, by omega⟩, fun r => ⟨fun _ => h3, fun t => hb (by simpa using t.1), fun _ => h3, fun t => hb (by simpa using fun e => t.1 (.inl e)), fun t => ?_, fun t => ?_⟩⟩, fun q => ?_⟩
  · rw [show i - 1 + 1 = i by omega]
    exact back_skip h2 ((key i).1 r)
  · rw [key] at r
    rw [key2] at t
    refine ⟨by omega, ⟨by omega, by omega, q, ?_⟩, by omega⟩
    rw [show i - 1 + 1 = i by omega, if_pos rfl]
    refine back_take h2 h1 q (Int.not_lt.1 r) ?_
    rcases t with t | t
    · rw [if_neg (by simp [t])]; exact .inl (by omega)
    · cases f
      · exact .inl (by simp)
      · exact .inr (by simpa using t)
  · rw [key] at r
    rw [key2] at t
    refine ⟨by omega, ⟨by omega, by omega, h3, ?_⟩, by omega⟩
    rw [show i - 1 + 1 = i by omega]
    refine back_keep h2 (Int.not_lt.1 r) ?_
    cases f
    · exact absurd (.inl rfl) t
    · intro c
      rcases c with c | c
      · simp at c; omega
      · exact t (.inr (by simpa using c))
  · rw [show i + 1 = 0 by omega] at h2
    rw [nearest_eq h2]
    refine ⟨fun r => ?_, fun r => ?_⟩
    · rw [if_neg r, if_pos (by omega)]; exact ⟨rfl, rfl⟩
    · have hf : f = true := by simpa using r
      rw [if_pos hf, if_neg (by omega)]; exact ⟨rfl, rfl⟩

theorem law_MarksNears_hC : Cons Try.prog [(f_marks_Near, marks_Near_ct), (f_ref_MarksNear, ref_MarksNear_ct)] := ⟨marks_Near_con, ref_MarksNear_con, trivial⟩
theorem law_MarksNears_con : Con Try.prog f_law_MarksNears law_MarksNears_ct := law_MarksNears_vc law_MarksNears_hC fun ms at_ right h => ⟨trivial, trivial, by simp⟩

end Go.Proofs.Ytgnhlecfladigaa
