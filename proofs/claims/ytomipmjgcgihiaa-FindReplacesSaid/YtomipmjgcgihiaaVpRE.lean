/-
  Replacing: what the places where a text stands make, one behind the other.
-/
import Derived.Test.YtomipmjgcgihiaaVpG
set_option linter.unusedVariables false
set_option linter.unusedSimpArgs false
namespace Go.Fu
open Go.Vc
noncomputable section
/-- What is made so far, the place reached, how often. -/
abbrev Rmade := Bytes × Int × Int
def rStep (text put : Bytes) (fl : Int) (m : Rmade) (i : Int) : Rmade :=
  if i < m.2.1 then m else (m.1 ++ ((text.take i.toNat).drop m.2.1.toNat ++ put), i + fl, m.2.2 + 1)
def rMade (text put : Bytes) (fl : Int) (l : List Int) : Rmade := l.foldl (rStep text put fl) ([], 0, 0)
def rWhole (text put : Bytes) (fl : Int) (l : List Int) : Bytes := (rMade text put fl l).1 ++ text.drop (rMade text put fl l).2.1.toNat
open Classical in
def findReplace (text find put : Bytes) : Bytes × Int × Int :=
  if findFault text find ≠ 0 then ([], 0, findFault text find)
  else if 600 < (rWhole text put find.length (findAt text find)).length then ([], 0, 1) else (rWhole text put find.length (findAt text find), (rMade text put find.length (findAt text find)).2.2, 0)
def find_Replace_ct : Ct := ⟨tys3 .str .str .str, [.val .str, .val tI, .val tI], fun x => fitS x.2.2, fun x => findReplace x.1 x.2.1 x.2.2⟩
def ref_FindReplace_ct : Ct := find_Replace_ct
end
section
variable {text put : Bytes} {fl : Int} {l : List Int}
theorem rmade_succ {i : Nat} {a : Int} (h : l[i]? = some a) : rMade text put fl (l.take (i + 1)) = rStep text put fl (rMade text put fl (l.take i)) a := by
  rw [List.take_add_one, h]; simp [rMade]
theorem rfold_len : ∀ (l : List Int) (m : Rmade), m.1.length ≤ (l.foldl (rStep text put fl) m).1.length
  | [], m => Nat.le_refl _
  | i :: r, m => by
    have := rfold_len r (rStep text put fl m i)
    simp only [List.foldl_cons]
    have e : m.1.length ≤ (rStep text put fl m i).1.length := by
      unfold rStep; split <;> simp
    omega
theorem rmade_mono (k : Nat) : (rMade text put fl (l.take k)).1.length ≤ (rMade text put fl l).1.length := by
  conv => rhs; rw [← List.take_append_drop k l]
  unfold rMade
  rw [List.foldl_append]
  exact rfold_len _ _
theorem rwhole_big {k : Nat} (h : 600 < (rMade text put fl (l.take k)).1.length) : 600 < (rWhole text put fl l).length := by
  have := rmade_mono (text := text) (put := put) (fl := fl) (l := l) k
  unfold rWhole
  rw [List.length_append]
  omega
theorem rfold_at (hl : ∀ i ∈ l, 0 ≤ i ∧ i + fl ≤ text.length) (hf : 0 ≤ fl) : ∀ m : Rmade, 0 ≤ m.2.1 → m.2.1 ≤ text.length → 0 ≤ m.2.2 → 0 ≤ (l.foldl (rStep text put fl) m).2.1 ∧ (l.foldl (rStep text put fl) m).2.1 ≤ text.length ∧ 0 ≤ (l.foldl (rStep text put fl) m).2.2 ∧ (l.foldl (rStep text put fl) m).2.2 ≤ m.2.2 + l.length := by
  induction l with
  | nil => intro m a b c; simp; omega
  | cons i r ih =>
    intro m a b c
    simp only [List.foldl_cons]
    have hi := hl i (by simp)
    have q := ih (fun j hj => hl j (by simp [hj])) (rStep text put fl m i)
    unfold rStep at q ⊢
    split at q
    · rename_i h
      rw [if_pos h]
      have := q a b c
      simp only [List.length_cons]; omega
    · rename_i h
      rw [if_neg h]
      have := q (by simp only; omega) (by simp only; omega) (by simp only; omega)
      simp only [List.length_cons] at *; omega
theorem rmade_at (hl : ∀ i ∈ l, 0 ≤ i ∧ i + fl ≤ text.length) (hf : 0 ≤ fl) (k : Nat) : 0 ≤ (rMade text put fl (l.take k)).2.1 ∧ (rMade text put fl (l.take k)).2.1 ≤ text.length ∧ 0 ≤ (rMade text put fl (l.take k)).2.2 ∧ (rMade text put fl (l.take k)).2.2 ≤ k := by
  have := rfold_at (l := l.take k) (text := text) (put := put) (fl := fl) (fun i hi => hl i (List.mem_of_mem_take hi)) hf ([], 0, 0) (by simp) (by simp) (by simp)
  unfold rMade
  simp only [List.length_take] at this
  omega
end
theorem findAt_mem {text find : Bytes} {i : Int} (h : i ∈ findAt text find) : 0 ≤ i ∧ i + find.length ≤ text.length := by
  unfold findAt pls at h
  rw [List.mem_filter] at h
  have := h.2
  simp only [bo_true] at this
  exact ⟨this.1, this.2.1⟩
theorem findAt_len (text find : Bytes) : (findAt text find).length ≤ text.length := by
  have := pls_len (P := stands text find) text.length
  unfold findAt; omega
theorem replace_a {text find put : Bytes} (h : ¬ findFault text find = 0) : findReplace text find put = ([], 0, findFault text find) := by unfold findReplace; rw [if_pos h]
theorem replace_b {text find put : Bytes} (h : findFault text find = 0) (g : 600 < (rWhole text put find.length (findAt text find)).length) : findReplace text find put = ([], 0, 1) := by
  unfold findReplace; rw [if_neg (Classical.not_not.2 h), if_pos g]
theorem replace_c {text find put : Bytes} (h : findFault text find = 0) (g : ¬ 600 < (rWhole text put find.length (findAt text find)).length) : findReplace text find put = (rWhole text put find.length (findAt text find), (rMade text put find.length (findAt text find)).2.2, 0) := by
  unfold findReplace; rw [if_neg (Classical.not_not.2 h), if_neg g]
end Go.Fu
