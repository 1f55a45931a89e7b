/-
  The laws of ropes.
-/
import Derived.Test.YtgiglabejffciaaVpRQ
import Derived.Test.YtgiglabejffciaaVpSC
set_option linter.unusedVariables false
set_option linter.unusedSimpArgs false
namespace Go.Fu
open Go.Vc
noncomputable section
def law_RopeDepths_ct : Ct := ⟨tys1 (.sl tOp), [.val .bool], fun l => opsFit l, fun _ => true⟩
def rope_Play_ct : Ct := ref_RopePlayed_ct
def law_RopePlays_ct : Ct := ⟨tys1 (.sl tOp), [.val .bool], fun l => opsFit l, fun _ => true⟩
def law_RopeMeasures_ct : Ct := ⟨tys1 (.sl tOp), [.val .bool], fun l => opsFit l, fun _ => true⟩
end
theorem texts_ok (l : List Op) : (ropeTexts l).1.length ≤ 60 ∧ ∀ t ∈ (ropeTexts l).1, t.length ≤ 600 := by
  unfold ropeTexts iteP
  split
  · simp
  · obtain ⟨h1, h2⟩ := rope_run l
    dsimp only
    rw [← h2]
    refine ⟨by rw [List.length_map]; exact h1.few, fun t ht => ?_⟩
    obtain ⟨r, hr, rfl⟩ := List.mem_map.1 ht
    exact h1.len r hr
theorem texts_fit {l : List Op} {i : Int} (h0 : 0 ≤ i) (h1 : i < (ropeTexts l).1.length) : fitS (gt (ropeTexts l).1 i) := by
  have := (texts_ok l).2 _ (gt_mem h0 h1)
  unfold fitS; omega
theorem measureLaw (l : List Op) : ropeMeasure l = ((ropeTexts l).1.map posOf, (ropeTexts l).1.map polyOf, (ropeTexts l).2.2) := by
  unfold ropeMeasure ropeTexts iteP
  split <;> rfl
theorem depthsLaw (l : List Op) : (ropeDepths l).1.length = (ropeTexts l).1.length ∧ (ropeDepths l).2 = (ropeTexts l).2.2 ∧ ∀ i : Int, 0 ≤ i → i < (ropeTexts l).1.length → ∃ r : Ro, balO r ∧ (txtO r).length ≤ 600 ∧ gt (ropeTexts l).1 i = txtO r ∧ gt (ropeDepths l).1 i = (deepO r : Int) := by
  unfold ropeDepths ropeTexts iteP
  split
  · exact ⟨rfl, rfl, fun i h0 h1 => by simp at h1; omega⟩
  · obtain ⟨h1, h2⟩ := rope_run l
    dsimp only
    rw [← h2]
    refine ⟨by simp, rfl, fun i h0 hi => ?_⟩
    rw [List.length_map] at hi
    have hm := gt_mem (l := ropeRun l) h0 hi
    exact ⟨gt (ropeRun l) i, h1.bal _ hm, h1.len _ hm, gt_map h0 hi, gt_map h0 hi⟩
theorem deepO_pos {r : Ro} (h : balO r) : (0 < (deepO r : Int) ↔ txtO r ≠ []) := by
  cases r with
  | none => simp [deepO, txtO]
  | some r =>
    have h1 := r.deep_pos
    have h2 := (bal_len r h).1
    have h3 : 0 < 2 ^ ((r.deep - 1) / 2) := Nat.pow_pos (by omega)
    simp only [deepO, txtO]
    refine ⟨fun _ e => ?_, fun _ => by omega⟩
    rw [e] at h2; simp at h2
theorem deepO_le {r : Ro} (h : balO r) {k : Nat} (hk : (txtO r).length < 2 ^ k) : deepO r ≤ 2 * k := by
  cases r with
  | none => simp [deepO]
  | some r => exact deep_le h hk
theorem half_next {len k : Nat} (hl : len ≤ 600) (h : 0 < ((len / 2 ^ k : Nat) : Int)) : k + 1 ≤ 10 ∧ Int.tdiv ((len / 2 ^ k : Nat) : Int) 2 = ((len / 2 ^ (k + 1) : Nat) : Int) ∧ len / 2 ^ (k + 1) < len / 2 ^ k := by
  have e : len / 2 ^ (k + 1) = len / 2 ^ k / 2 := by rw [Nat.pow_succ, Nat.div_div_eq_div_mul]
  refine ⟨?_, by rw [e]; exact (Int.ofNat_tdiv _ 2).symm, by rw [e]; omega⟩
  apply Classical.byContradiction
  intro c
  have h2 := Nat.pow_le_pow_right (show 0 < 2 by omega) (show 10 ≤ k by omega)
  rw [Nat.div_eq_of_lt (by omega)] at h
  omega
end Go.Fu
