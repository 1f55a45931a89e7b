/-
  Merging: the rule's loops.
-/
import Derived.Test.YtdbgppfoenoijaaVpMO
set_option linter.unusedVariables false
set_option linter.unusedSimpArgs false
namespace Go.Fu
open Go.Vc
noncomputable section
theorem bo_iff (p : Prop) : (bo p = true) = p := by unfold bo; simp
section
variable {base other : Lines}
theorem touchL_len : (touchL base other).1.length = base.length + 1 ∧ (touchL base other).2.1.length = base.length ∧ (touchL base other).2.2.length = base.length + 1 := by
  simp [touchL, pl_len]
theorem gt_map {A : Type} [Inhabited A] (f : Nat → A) {n : Nat} {i : Int} (h0 : 0 ≤ i) (h1 : i < n) : gt ((List.range n).map f) i = f i.toNat := by
  rw [gt_in h0 (by simp; omega)]
  simp
theorem touchL_gap {i : Int} (h0 : 0 ≤ i) (h1 : i ≤ base.length) : gt (touchL base other).1 i = (touchOf base other).gap i.toNat := gt_map _ h0 (by omega)
theorem touchL_gone {i : Int} (h0 : 0 ≤ i) (h1 : i < base.length) : gt (touchL base other).2.1 i = (touchOf base other).gone i.toNat := gt_map _ h0 (by omega)
theorem touchL_put {i : Int} (h0 : 0 ≤ i) (h1 : i ≤ base.length) : gt (touchL base other).2.2 i = (touchOf base other).put i.toNat := gt_map _ h0 (by omega)
end
/-- A part as the rule makes it, so far. -/
def pre1 (base : Lines) (t : Tch) (lo : Nat) : Nat → Lines
  | 0 => []
  | k + 1 => pre1 base t lo k ++ t.put (lo + k) ++ (if t.gone (lo + k) = true then [] else [base.getD (lo + k) []])
theorem pre1_mk (base : Lines) (t : Tch) (lo k : Nat) : mk1 base t lo (lo + k) = pre1 base t lo k ++ t.put (lo + k) := by
  have : ∀ k, t.put lo ++ seg base t lo k = pre1 base t lo k ++ t.put (lo + k) := by
    intro k
    induction k with
    | zero => simp [seg, pre1]
    | succ k ih =>
      rw [seg, ← List.append_assoc, ih, pre1, cell]
      simp [List.append_assoc, Nat.add_assoc]
  unfold mk1
  rw [show lo + k - lo = k by omega, this]
theorem pre1_len {base : Lines} {t : Tch} {lo : Nat} (h : ∀ i, (t.put i).length ≤ 80) : ∀ k, (pre1 base t lo k).length ≤ 81 * k
  | 0 => by simp [pre1]
  | k + 1 => by
    have := pre1_len (base := base) (lo := lo) h k
    have := h (lo + k)
    rw [pre1, List.length_append, List.length_append]
    split <;> simp <;> omega
theorem mk1_len {base : Lines} {t : Tch} {lo hi : Nat} (h : ∀ i, (t.put i).length ≤ 80) (hl : lo ≤ hi) (hh : hi ≤ 80) : (mk1 base t lo hi).length ≤ 7000 := by
  have e := pre1_mk base t lo (hi - lo)
  rw [show lo + (hi - lo) = hi by omega] at e
  have h1 := pre1_len (base := base) (lo := lo) h (hi - lo)
  have := h hi
  rw [e, List.length_append]; omega
def partR (base : Lines) (tA tB : Tch) (i hi : Nat) : Lines := open Classical in if ¬ uses tB i hi ∨ mk1 base tA i hi = mk1 base tB i hi then mk1 base tA i hi else if ¬ uses tA i hi then mk1 base tB i hi else clashed (mk1 base tA i hi) (mk1 base tB i hi)
def partK (base : Lines) (tA tB : Tch) (i hi : Nat) : Nat := open Classical in if ¬ uses tB i hi ∨ mk1 base tA i hi = mk1 base tB i hi then 0 else if ¬ uses tA i hi then 0 else 1
theorem rule_end {base : Lines} {n : Nat} {tA tB : Tch} {k i : Nat} (h : n < i) : ruleF base n tA tB k i = ([], 0) := by
  cases k with
  | zero => rfl
  | succ k => rw [ruleF, if_pos h]
theorem rule_free {base : Lines} {n : Nat} {tA tB : Tch} {k i : Nat} (h : i ≤ n) (hg : tA.gap i = false ∧ tB.gap i = false) : ruleF base n tA tB (k + 1) i = ((if i < n then [base.getD i []] else []) ++ (ruleF base n tA tB k (i + 1)).1, (ruleF base n tA tB k (i + 1)).2) := by
  rw [ruleF, if_neg (by omega), if_pos hg]
theorem rule_part {base : Lines} {n : Nat} {tA tB : Tch} {k i hi : Nat} (h : i ≤ n) (hg : ¬ (tA.gap i = false ∧ tB.gap i = false)) (hh : runTo n (fun j => tA.gone j || tB.gone j) (n + 1) i = hi) :
    ruleF base n tA tB (k + 1) i = (partR base tA tB i hi ++ (if hi < n then [base.getD hi []] else []) ++ (ruleF base n tA tB k (hi + 1)).1, partK base tA tB i hi + (ruleF base n tA tB k (hi + 1)).2) := by
  subst hh
  rw [ruleF, if_neg (by omega), if_neg hg]
  rfl
/-- The rule, so far. -/
def RI (base : Lines) (tA tB : Tch) (i cl : Int) (out : Lines) : Prop :=
  0 ≤ i ∧ i ≤ base.length + 1 ∧ 0 ≤ cl ∧ cl ≤ i ∧ out.length ≤ 20000 * i ∧ ∃ K : Nat, base.length < i + K ∧ (ruleF base base.length tA tB (base.length + 1) 0).1 = out ++ (ruleF base base.length tA tB K i.toNat).1 ∧ ((ruleF base base.length tA tB (base.length + 1) 0).2 : Int) = cl + (ruleF base base.length tA tB K i.toNat).2
section
variable {base : Lines} {tA tB : Tch} {i cl : Int} {out : Lines}
theorem RI.start : RI base tA tB 0 0 [] := ⟨Int.le_refl _, by omega, Int.le_refl _, Int.le_refl _, by simp, base.length + 1, by omega, by simp, by simp⟩
theorem RI.done (h : RI base tA tB i cl out) (hi : ¬ i ≤ base.length) : out = (ruleF base base.length tA tB (base.length + 1) 0).1 ∧ cl = ((ruleF base base.length tA tB (base.length + 1) 0).2 : Int) := by
  obtain ⟨h0, h1, h2, h3, h4, K, h5, h6, h7⟩ := h
  rw [rule_end (k := K) (i := i.toNat) (by omega)] at h6 h7
  exact ⟨by rw [h6]; simp, by rw [h7]; simp⟩
theorem RI.free (h : RI base tA tB i cl out) (hi : i ≤ base.length) (ga : tA.gap i.toNat = false) (gb : tB.gap i.toNat = false) : RI base tA tB (i + 1) cl (out ++ (if i < base.length then [base.getD i.toNat []] else [])) := by
  obtain ⟨h0, h1, h2, h3, h4, K, h5, h6, h7⟩ := h
  cases K with
  | zero => omega
  | succ K =>
    rw [rule_free (k := K) (i := i.toNat) (by omega) ⟨ga, gb⟩] at h6 h7
    refine ⟨by omega, by omega, h2, by omega, ?_, K, by omega, ?_, ?_⟩
    · rw [List.length_append]; split <;> simp <;> omega
    · rw [show (i + 1).toNat = i.toNat + 1 by omega, h6, List.append_assoc]
      congr 3
      by_cases c : i < base.length
      · rw [if_pos c, if_pos (by omega)]
      · rw [if_neg c, if_neg (by omega)]
    · rw [show (i + 1).toNat = i.toNat + 1 by omega]; exact h7
theorem RI.part {hi : Int} {P : Lines} {C : Int} (h : RI base tA tB i cl out) (hn : base.length ≤ 80) (pA : ∀ i, (tA.put i).length ≤ 80) (pB : ∀ i, (tB.put i).length ≤ 80) (hi0 : i ≤ hi) (hi1 : hi ≤ base.length) (hg : ¬ (tA.gap i.toNat = false ∧ tB.gap i.toNat = false))
    (hh : runTo base.length (fun j => tA.gone j || tB.gone j) (base.length + 1) i.toNat = hi.toNat) (hP : P = partR base tA tB i.toNat hi.toNat) (hC : C = (partK base tA tB i.toNat hi.toNat : Int)) : RI base tA tB (hi + 1) (cl + C) (out ++ P ++ (if hi < base.length then [base.getD hi.toNat []] else [])) := by
  obtain ⟨h0, h1, h2, h3, h4, K, h5, h6, h7⟩ := h
  subst hP hC
  have l1 := mk1_len (base := base) (lo := i.toNat) (hi := hi.toNat) pA (by omega) (by omega)
  have l2 := mk1_len (base := base) (lo := i.toNat) (hi := hi.toNat) pB (by omega) (by omega)
  have lP : (partR base tA tB i.toNat hi.toNat).length ≤ 14003 := by
    unfold partR
    split
    · omega
    split
    · omega
    · simp only [clashed, List.length_append, List.length_singleton]; omega
  have lK : partK base tA tB i.toNat hi.toNat ≤ 1 := by
    unfold partK
    split
    · omega
    split <;> omega
  cases K with
  | zero => omega
  | succ K =>
    rw [rule_part (k := K) (i := i.toNat) (by omega) hg hh] at h6 h7
    refine ⟨by omega, by omega, by omega, by omega, ?_, K, by omega, ?_, ?_⟩
    · rw [List.length_append, List.length_append]; split <;> simp <;> omega
    · rw [show (hi + 1).toNat = hi.toNat + 1 by omega, h6]
      have ee : (if hi.toNat < base.length then [base.getD hi.toNat []] else []) = (if hi < base.length then [base.getD hi.toNat []] else []) := by
        by_cases c : hi < base.length
        · rw [if_pos c, if_pos (by omega)]
        · rw [if_neg c, if_neg (by omega)]
      simp only [List.append_assoc, ee]
    · rw [show (hi + 1).toNat = hi.toNat + 1 by omega, h7]
      simp only
      omega
end
theorem run_stop {n : Nat} {g : Nat → Bool} {K h : Nat} (hK : 0 < K) (hs : ¬ (h < n ∧ g h = true)) : runTo n g K h = h := by
  cases K with
  | zero => omega
  | succ K => rw [runTo, if_neg hs]
theorem run_go {n : Nat} {g : Nat → Bool} {K h : Nat} (hs : h < n ∧ g h = true) : runTo n g (K + 1) h = runTo n g K (h + 1) := by rw [runTo, if_pos hs]
theorem uses_step {g : Nat → Bool} {ua b : Bool} {i k : Int} (h0 : 0 ≤ i) (hk : i ≤ k) (h : ua = true ↔ ∃ z : Nat, i.toNat ≤ z ∧ (z : Int) < k ∧ g z = true) (hb : b = g k.toNat) : (ua = true ∨ b = true) ↔ ∃ z : Nat, i.toNat ≤ z ∧ (z : Int) < k + 1 ∧ g z = true := by
  subst hb
  rw [h]
  constructor
  · rintro (⟨z, z1, z2, z3⟩ | q)
    · exact ⟨z, z1, by omega, z3⟩
    · exact ⟨k.toNat, by omega, by omega, q⟩
  · rintro ⟨z, z1, z2, z3⟩
    by_cases c : (z : Int) < k
    · exact .inl ⟨z, z1, c, z3⟩
    · obtain rfl : z = k.toNat := by omega
      exact .inr z3
theorem uses_done {t : Tch} {i k h : Int} (h0 : 0 ≤ i) (hh : i ≤ h) (hk : k = h + 1) : (∃ z : Nat, i.toNat ≤ z ∧ (z : Int) < k ∧ t.gap z = true) ↔ uses t i.toNat h.toNat := by
  subst hk
  unfold uses
  constructor
  · rintro ⟨z, z1, z2, z3⟩; exact ⟨z, z1, by omega, z3⟩
  · rintro ⟨z, z1, z2, z3⟩; exact ⟨z, z1, by omega, z3⟩
/-- A part, as far as it is made. -/
def MI (base : Lines) (t : Tch) (i h j : Int) (out : Lines) : Prop := i ≤ j ∧ j ≤ h + 1 ∧ out = (if j ≤ h then pre1 base t i.toNat (j - i).toNat else mk1 base t i.toNat h.toNat)
section
variable {base : Lines} {t : Tch} {i h j : Int} {out : Lines}
theorem MI.start (hh : i ≤ h) : MI base t i h i [] := ⟨Int.le_refl _, by omega, by rw [if_pos hh, show (i - i).toNat = 0 by omega]; rfl⟩
theorem MI.len (m : MI base t i h j out) (h0 : 0 ≤ i) (hh : i ≤ h) (h8 : h ≤ 80) (p : ∀ i, (t.put i).length ≤ 80) : out.length ≤ 7000 := by
  obtain ⟨h1, h2, rfl⟩ := m
  split
  · have := pre1_len (base := base) (lo := i.toNat) p (j - i).toNat; omega
  · exact mk1_len p (by omega) (by omega)
theorem MI.keep (m : MI base t i h j out) (h0 : 0 ≤ i) (hj : j < h) (hg : t.gone j.toNat = false) : MI base t i h (j + 1) (out ++ t.put j.toNat ++ [base.getD j.toNat []]) := by
  obtain ⟨h1, h2, rfl⟩ := m
  refine ⟨by omega, by omega, ?_⟩
  rw [if_pos (by omega), if_pos (by omega), show (j + 1 - i).toNat = (j - i).toNat + 1 by omega, pre1, show i.toNat + (j - i).toNat = j.toNat by omega, hg, if_neg (by simp)]
theorem MI.skip (m : MI base t i h j out) (h0 : 0 ≤ i) (hh : j ≤ h) (hj : j < h → t.gone j.toNat = true) : MI base t i h (j + 1) (out ++ t.put j.toNat) := by
  obtain ⟨h1, h2, rfl⟩ := m
  refine ⟨by omega, by omega, ?_⟩
  rw [if_pos hh]
  by_cases c : j < h
  · rw [if_pos (by omega), show (j + 1 - i).toNat = (j - i).toNat + 1 by omega, pre1, show i.toNat + (j - i).toNat = j.toNat by omega, hj c, if_pos rfl, List.append_nil]
  · rw [if_neg (by omega)]
    have e := pre1_mk base t i.toNat (j - i).toNat
    rw [show i.toNat + (j - i).toNat = h.toNat by omega] at e
    rw [e, show j.toNat = h.toNat by omega]
theorem MI.done (m : MI base t i h j out) (hj : ¬ j ≤ h) : out = mk1 base t i.toNat h.toNat := by rw [m.2.2, if_neg hj]
end
theorem run_le {n : Nat} {g : Nat → Bool} : ∀ (K h : Nat), h ≤ n → h ≤ runTo n g K h ∧ runTo n g K h ≤ n
  | 0, h, hn => ⟨Nat.le_refl _, hn⟩
  | K + 1, h, hn => by
    rw [runTo]
    split
    · rename_i c
      have := run_le (n := n) (g := g) K (h + 1) (by omega)
      omega
    · omega
theorem rule_len {base : Lines} {tA tB : Tch} (hn : base.length ≤ 80) (pA : ∀ i, (tA.put i).length ≤ 80) (pB : ∀ i, (tB.put i).length ≤ 80) : ∀ (K i : Nat), i ≤ base.length + 1 → (ruleF base base.length tA tB K i).1.length ≤ 20000 * (base.length + 1 - i)
  | 0, i, h => by simp [ruleF]
  | K + 1, i, h => by
    by_cases c : base.length < i
    · rw [rule_end c]; simp
    by_cases hg : tA.gap i = false ∧ tB.gap i = false
    · have := rule_len hn pA pB K (i + 1) (by omega)
      rw [rule_free (by omega) hg, List.length_append]
      split <;> simp <;> omega
    · obtain ⟨r1, r2⟩ := run_le (n := base.length) (g := fun j => tA.gone j || tB.gone j) (base.length + 1) i (show i ≤ base.length by omega)
      rw [rule_part (hi := runTo base.length (fun j => tA.gone j || tB.gone j) (base.length + 1) i) (by omega) hg rfl, List.length_append, List.length_append]
      generalize runTo base.length (fun j => tA.gone j || tB.gone j) (base.length + 1) i = h at *
      have := rule_len hn pA pB K (h + 1) (by omega)
      have l1 := mk1_len (base := base) (lo := i) (hi := h) pA (by omega) (by omega)
      have l2 := mk1_len (base := base) (lo := i) (hi := h) pB (by omega) (by omega)
      have lP : (partR base tA tB i h).length ≤ 14003 := by
        unfold partR
        split
        · omega
        split
        · omega
        · simp only [clashed, List.length_append, List.length_singleton]; omega
      split <;> simp <;> omega
theorem merged_len (base a b : Lines) : (merged base a b).1.length ≤ 2000000 := by
  by_cases h : linesFault [base, a, b] = 0
  · have hno : ¬ ∃ l ∈ [base, a, b], 80 < l.length ∨ ∃ s ∈ l, 600 < s.length := fun q => by have := (linesFault_iff [base, a, b]).2.2 q; omega
    have k : ∀ l ∈ [base, a, b], l.length ≤ 80 := fun l hl => Classical.byContradiction fun q => hno ⟨l, hl, .inl (by omega)⟩
    have k1 := k base (by simp)
    have k2 := k a (by simp)
    have k3 := k b (by simp)
    rw [merged_rule h]
    have := rule_len (base := base) (tA := touchOf base a) (tB := touchOf base b) k1 (fun i => by have := touch_few base a i; omega) (fun i => by have := touch_few base b i; omega) (base.length + 1) 0 (by omega)
    simp only; omega
  · unfold merged; rw [if_pos h]; simp
end
end Go.Fu
