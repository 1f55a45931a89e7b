/-
  Replacing, as the rule says it: byte by byte.
-/
import Derived.Test.YtomipmjgcgihiaaVpRE
set_option linter.unusedVariables false
set_option linter.unusedSimpArgs false
namespace Go.Fu
open Go.Vc
section
variable {text find put : Bytes}
noncomputable def rAt (text find put : Bytes) (at_ : Int) : Rmade := rMade text put find.length (pls (stands text find) at_)
/-- What has been made when all ahead of a place is gone through. -/
noncomputable def rFull (text find put : Bytes) (at_ : Int) : Bytes := (rAt text find put at_).1 ++ (text.take at_.toNat).drop (rAt text find put at_).2.1.toNat
theorem rAt_zero : rAt text find put 0 = ([], 0, 0) := by simp [rAt, pls, rMade]
theorem rAt_none {i : Int} (h : 0 ≤ i) (n : ¬ stands text find i) : rAt text find put (i + 1) = rAt text find put i := by
  unfold rAt; rw [pls_neg h n]
theorem rAt_some {i : Int} (h : 0 ≤ i) (n : stands text find i) : rAt text find put (i + 1) = rStep text put find.length (rAt text find put i) i := by
  unfold rAt; rw [pls_pos h n]; simp [rMade]
/-- The places that a found text covers are passed over. -/
theorem rAt_skip {a : Int} (h : 0 ≤ a) : ∀ k : Nat, (rAt text find put a).2.1 ≥ a + k → rAt text find put (a + k) = rAt text find put a
  | 0, _ => by simp
  | k + 1, g => by
    have e := rAt_skip h k (by omega)
    by_cases s : stands text find (a + k)
    · rw [show a + ((k + 1 : Nat) : Int) = (a + k) + 1 by omega, rAt_some (by omega) s, e]
      unfold rStep
      rw [if_pos (by omega)]
    · rw [show a + ((k + 1 : Nat) : Int) = (a + k) + 1 by omega, rAt_none (by omega) s, e]
structure Rinv (text find put : Bytes) (at_ n : Int) (out : Bytes) : Prop where
  a0 : 0 ≤ at_
  a1 : at_ ≤ text.length
  le : 0 ≤ (rAt text find put at_).2.1 ∧ (rAt text find put at_).2.1 ≤ at_
  cnt : n = (rAt text find put at_).2.2
  out : out = rFull text find put at_ ∨ 600 < out.length ∧ 600 < (rFull text find put at_).length
  n0 : 0 ≤ n ∧ n ≤ at_
theorem Rinv.init : Rinv text find put 0 0 [] :=
  ⟨by omega, by omega, by rw [rAt_zero]; simp, by rw [rAt_zero], .inl (by simp [rFull, rAt_zero]), by omega⟩
theorem Rinv.found {at_ n : Int} {out : Bytes} (h : Rinv text find put at_ n out) (f0 : 0 < find.length) (s : stands text find at_) {out' : Bytes} (ho : out' = if out.length ≤ 600 then out ++ put else out) : Rinv text find put (at_ + find.length) (n + 1) out' := by
  obtain ⟨a0, a1, ⟨l0, l1⟩, cnt, o, n0⟩ := h
  have sl := s.2.1
  have e := rAt_some (put := put) a0 s
  have e' : rStep text put find.length (rAt text find put at_) at_ = ((rAt text find put at_).1 ++ ((text.take at_.toNat).drop (rAt text find put at_).2.1.toNat ++ put), at_ + find.length, (rAt text find put at_).2.2 + 1) := by
    unfold rStep; rw [if_neg (by omega)]
  rw [e'] at e
  have sk := rAt_skip (text := text) (find := find) (put := put) (a := at_ + 1) (by omega) (find.length - 1) (by rw [e]; simp only; omega)
  rw [show at_ + 1 + ((find.length - 1 : Nat) : Int) = at_ + find.length by omega, e] at sk
  have fu : rFull text find put (at_ + find.length) = rFull text find put at_ ++ put := by
    unfold rFull
    rw [sk]
    simp only
    have dz : (text.take (at_ + find.length).toNat).drop (at_ + find.length).toNat = [] := List.drop_eq_nil_of_le (by rw [List.length_take]; omega)
    rw [dz]
    simp
  refine ⟨by omega, s.2.1, by rw [sk]; exact ⟨by show (0 : Int) ≤ at_ + find.length; omega, Int.le_refl _⟩, by rw [sk, cnt], ?_, by omega⟩
  rw [fu]
  rcases o with rfl | ⟨o1, o2⟩
  · by_cases c : (rFull text find put at_).length ≤ 600
    · rw [ho, if_pos c]; exact .inl rfl
    · rw [ho, if_neg c]; exact .inr ⟨by omega, by rw [List.length_append]; omega⟩
  · rw [ho, if_neg (by omega)]
    exact .inr ⟨o1, by rw [List.length_append]; omega⟩
theorem Rinv.byte {at_ n : Int} {out : Bytes} (h : Rinv text find put at_ n out) (t : at_ < text.length) (s : ¬ stands text find at_) : Rinv text find put (at_ + 1) n (out ++ (text.take (at_ + 1).toNat).drop at_.toNat) := by
  obtain ⟨a0, a1, ⟨l0, l1⟩, cnt, o, n0⟩ := h
  have e := rAt_none (put := put) a0 s
  have fu : rFull text find put (at_ + 1) = rFull text find put at_ ++ (text.take (at_ + 1).toNat).drop at_.toNat := by
    unfold rFull
    rw [e, List.append_assoc]
    congr 1
    refine ext_gt (by simp only [List.length_append, List.length_drop, List.length_take]; omega) fun i i0 i1 => ?_
    simp only [List.length_drop, List.length_take] at i1
    rw [gt_drop i0, gt_take (by omega) (by omega)]
    by_cases c : i < at_ - (rAt text find put at_).2.1
    · rw [gt_append_l i0 (by simp only [List.length_drop, List.length_take]; omega), gt_drop i0, gt_take (by omega) (by omega)]
    · rw [gt_append_r (by simp only [List.length_drop, List.length_take]; omega), gt_drop (by simp only [List.length_drop, List.length_take]; omega), gt_take (by simp only [List.length_drop, List.length_take]; omega) (by simp only [List.length_drop, List.length_take]; omega)]
      congr 1
      simp only [List.length_drop, List.length_take]; omega
  refine ⟨by omega, by omega, by rw [e]; omega, by rw [e]; exact cnt, ?_, by omega⟩
  rw [fu]
  rcases o with rfl | ⟨o1, o2⟩
  · exact .inl rfl
  · exact .inr ⟨by rw [List.length_append]; omega, by rw [List.length_append]; omega⟩
theorem Rinv.fin {at_ n : Int} {out : Bytes} (h : Rinv text find put at_ n out) (t : ¬ at_ < text.length) (hf : findFault text find = 0) :
    (600 < out.length → findReplace text find put = ([], 0, 1)) ∧ (¬ 600 < out.length → findReplace text find put = (out, n, 0)) := by
  obtain ⟨a0, a1, ⟨l0, l1⟩, cnt, o, n0⟩ := h
  have ea : at_ = text.length := by omega
  subst ea
  have fu : rFull text find put text.length = rWhole text put find.length (findAt text find) := by
    unfold rFull rWhole rAt findAt
    rw [List.take_of_length_le (by omega)]
  have e2 : rAt text find put text.length = rMade text put find.length (findAt text find) := rfl
  rw [fu] at o
  rw [e2] at cnt
  refine ⟨fun c => replace_b hf ?_, fun c => ?_⟩
  · rcases o with o | ⟨_, o⟩
    · rw [← o]; exact c
    · exact o
  · rcases o with o | ⟨o, _⟩
    · rw [replace_c hf (by rw [← o]; exact c), ← o, cnt]
    · exact absurd o c
end
end Go.Fu
