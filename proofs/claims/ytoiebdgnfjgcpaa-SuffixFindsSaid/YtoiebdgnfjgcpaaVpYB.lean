/-
  Common beginnings of a text's ends: plain laws (neighbours in the order, Kasai's step), sums, what stands there again.
-/
import Derived.Test.YtoiebdgnfjgcpaaVpY
set_option linter.unusedVariables false
set_option linter.unusedSimpArgs false
namespace Go.Fu
open Go.Vc

/-! ### How long two texts begin alike -/
def lcp : Bts → Bts → Nat
  | a :: s, b :: t => if a = b then lcp s t + 1 else 0
  | _, _ => 0
theorem lcp_nil_l (t : Bts) : lcp [] t = 0 := by cases t <;> rfl
theorem lcp_nil_r (s : Bts) : lcp s [] = 0 := by cases s <;> rfl
theorem lcp_cons (a b : UInt8) (s t : Bts) : lcp (a :: s) (b :: t) = if a = b then lcp s t + 1 else 0 := rfl
theorem lcp_comm : ∀ s t : Bts, lcp s t = lcp t s
  | [], t => by rw [lcp_nil_l, lcp_nil_r]
  | a :: s, [] => rfl
  | a :: s, b :: t => by
    rw [lcp_cons, lcp_cons]
    by_cases h : a = b
    · rw [if_pos h, if_pos h.symm, lcp_comm s t]
    · rw [if_neg h, if_neg (Ne.symm h)]
theorem lcp_le_l : ∀ s t : Bts, lcp s t ≤ s.length
  | [], t => by rw [lcp_nil_l]; exact Nat.zero_le _
  | a :: s, [] => Nat.zero_le _
  | a :: s, b :: t => by
    rw [lcp_cons]
    split
    · have := lcp_le_l s t; simp only [List.length_cons]; omega
    · exact Nat.zero_le _
theorem lcp_le_r (s t : Bts) : lcp s t ≤ t.length := by rw [lcp_comm]; exact lcp_le_l t s
theorem lcp_ge {n : Nat} : ∀ {s t : Bts}, n ≤ s.length → n ≤ t.length → s.take n = t.take n → n ≤ lcp s t := by
  induction n with
  | zero => intros; exact Nat.zero_le _
  | succ n ih =>
    intro s t h1 h2 h
    cases s with
    | nil => simp at h1
    | cons a s => cases t with
      | nil => simp at h2
      | cons b t =>
        simp only [List.take_succ_cons, List.cons.injEq] at h
        simp only [List.length_cons] at h1 h2
        rw [lcp_cons, if_pos h.1]
        have := ih (by omega) (by omega) h.2
        omega
theorem lcp_take : ∀ s t : Bts, s.take (lcp s t) = t.take (lcp s t)
  | [], t => by simp [lcp_nil_l]
  | a :: s, [] => by simp [lcp_nil_r]
  | a :: s, b :: t => by
    rw [lcp_cons]
    split
    · rename_i h
      rw [List.take_succ_cons, List.take_succ_cons, h, lcp_take s t]
    · simp
theorem lcp_take_le {n : Nat} {s t : Bts} (h : n ≤ lcp s t) : s.take n = t.take n := by
  have := congrArg (List.take n) (lcp_take s t)
  rwa [List.take_take, List.take_take, Nat.min_eq_left h] at this
/-- One step of the comparison: it goes on as long as the bytes agree. -/
theorem lcp_stop {n : Nat} {s t : Bts} (h : s.take n = t.take n) (h1 : n ≤ s.length) (h2 : n ≤ t.length) (hs : n = s.length ∨ n = t.length ∨ gt s n ≠ gt t n) : lcp s t = n := by
  have g := lcp_ge h1 h2 h
  rcases Nat.lt_or_ge n (lcp s t) with q | q
  · exfalso
    have l1 := lcp_le_l s t
    have l2 := lcp_le_r s t
    rcases hs with hs | hs | hs
    · omega
    · omega
    · have e := lcp_take_le (n := n + 1) q
      apply hs
      have e1 := congrArg (fun l => gt l (n : Int)) e
      have e1 : gt (s.take (n + 1)) (n : Int) = gt (t.take (n + 1)) (n : Int) := e1
      rwa [gt_take (by omega) (by omega), gt_take (by omega) (by omega)] at e1
  · omega
theorem lcp_go {n : Nat} {s t : Bts} (h : s.take n = t.take n) (h1 : n < s.length) (h2 : n < t.length) (hs : gt s n = gt t n) : s.take (n + 1) = t.take (n + 1) := by
  have a := take_gt (l := s) (i := n) (by omega) (by omega)
  have b := take_gt (l := t) (i := n) (by omega) (by omega)
  rw [show ((n : Int) + 1).toNat = n + 1 by omega, Int.toNat_natCast] at a b
  rw [a, b, h, hs]
/-- What lies between two texts in the order begins like each as long as they begin alike. -/
theorem lcp_between : ∀ {s t u : Bts}, ¬ lexLt t s → ¬ lexLt u t → lcp s u ≤ lcp s t ∧ lcp s u ≤ lcp t u
  | [], t, u, _, _ => by rw [lcp_nil_l]; exact ⟨Nat.zero_le _, Nat.zero_le _⟩
  | a :: s, t, [], _, _ => by rw [lcp_nil_r]; exact ⟨Nat.zero_le _, Nat.zero_le _⟩
  | a :: s, [], c :: u, h1, _ => absurd trivial h1
  | a :: s, b :: t, c :: u, h1, h2 => by
    rw [lcp_cons a c]
    split
    · rename_i e
      subst e
      have hab : ¬ b < a := fun q => h1 (.inl q)
      have hba : ¬ a < b := fun q => h2 (.inl q)
      have e : a = b := by
        have q1 : ¬ a.toNat < b.toNat := hba
        have q2 : ¬ b.toNat < a.toNat := hab
        exact UInt8.toNat_inj.1 (by omega)
      subst e
      obtain ⟨g1, g2⟩ := lcp_between (s := s) (t := t) (u := u) (fun q => h1 (.inr ⟨rfl, q⟩)) (fun q => h2 (.inr ⟨rfl, q⟩))
      rw [lcp_cons, if_pos rfl, lcp_cons, if_pos rfl]
      omega
    · exact ⟨Nat.zero_le _, Nat.zero_le _⟩

/-! ### Neighbours in the order -/
section
variable {s : Bts} {o : List Int}
theorem sa_len (h : isSa s o) : o.length = s.length := by rw [h.1.length_eq, upTo_len]
theorem sa_mem (h : isSa s o) {i : Int} (hi : inT s i) : i ∈ o := h.1.mem_iff.2 (upTo_mem.2 hi)
theorem sa_gt (h : isSa s o) {k : Int} (h0 : 0 ≤ k) (h1 : k < o.length) : inT s (gt o k) := sa_in h.1 (gt_mem h0 h1)
theorem sa_lt (h : isSa s o) {j k : Int} (h0 : 0 ≤ j) (h1 : j < k) (h2 : k < o.length) : lexLt (suf s (gt o j)) (suf s (gt o k)) := by
  have := List.pairwise_iff_getElem.1 h.2 j.toNat k.toNat (by omega) (by omega) (by omega)
  rwa [← gt_in h0 (by omega), ← gt_in (by omega) h2] at this
theorem sa_lt_iff (h : isSa s o) {j k : Int} (h0 : 0 ≤ j) (h0' : 0 ≤ k) (h1 : j < o.length) (h2 : k < o.length) : lexLt (suf s (gt o j)) (suf s (gt o k)) ↔ j < k := by
  refine ⟨fun q => ?_, fun q => sa_lt h h0 q h2⟩
  rcases Int.lt_trichotomy j k with e | e | e
  · exact e
  · subst e; exact absurd q (lex_irrefl _)
  · exact absurd q (lex_asymm (sa_lt h h0' e h1))
theorem sa_le (h : isSa s o) {j k : Int} (h0 : 0 ≤ j) (h1 : j ≤ k) (h2 : k < o.length) : ¬ lexLt (suf s (gt o k)) (suf s (gt o j)) := fun q => by
  have := (sa_lt_iff h (by omega) h0 h2 (by omega)).1 q
  omega
theorem sa_gt_inj (h : isSa s o) {j k : Int} (h0 : 0 ≤ j) (h0' : 0 ≤ k) (h1 : j < o.length) (h2 : k < o.length) (e : gt o j = gt o k) : j = k := by
  rcases Int.lt_trichotomy j k with q | q | q
  · have := sa_lt h h0 q h2; rw [e] at this; exact absurd this (lex_irrefl _)
  · exact q
  · have := sa_lt h h0' q h1; rw [e] at this; exact absurd this (lex_irrefl _)
/-- How alike the ends at two places of the text begin. -/
def lcpI (s : Bts) (i j : Int) : Int := lcp (suf s i) (suf s j)
theorem lcpI_comm (i j : Int) : lcpI s i j = lcpI s j i := by unfold lcpI; rw [lcp_comm]
theorem lcpI_nn (i j : Int) : 0 ≤ lcpI s i j := by unfold lcpI; omega
/-- Two ends in the order: neighbours between them begin alike at least as long. -/
theorem lcp_nb (h : isSa s o) {j k m n : Int} (h0 : 0 ≤ j) (h1 : j ≤ m) (h2 : m ≤ n) (h3 : n ≤ k) (h4 : k < o.length) : lcpI s (gt o j) (gt o k) ≤ lcpI s (gt o m) (gt o n) := by
  unfold lcpI
  have a := (lcp_between (sa_le h h0 (show j ≤ m from h1) (by omega)) (sa_le h (by omega) (show m ≤ k by omega) h4)).2
  have b := (lcp_between (sa_le h (by omega) (show m ≤ n from h2) (by omega)) (sa_le h (by omega) (show n ≤ k from h3) h4)).1
  omega
/-- The list of the common beginnings of neighbours. -/
def comAt (s : Bts) (o : List Int) (k : Int) : Int := if k = 0 then 0 else lcpI s (gt o k) (gt o (k - 1))
def comOf (s : Bts) (o : List Int) : List Int := (upTo o.length).map fun k => comAt s o k
theorem comOf_len : (comOf s o).length = o.length := by simp [comOf, upTo_len]
theorem comOf_gt {k : Int} (h0 : 0 ≤ k) (h1 : k < o.length) : gt (comOf s o) k = comAt s o k := by
  have e := upTo_gt h0 h1
  rw [gt_in h0 (by rw [comOf_len]; exact h1)]
  rw [gt_in h0 (by rw [upTo_len]; exact h1)] at e
  simp only [comOf, List.getElem_map, e]

theorem suf_cons {i : Int} (h : inT s i) : suf s i = gt s i :: suf s (i + 1) := by
  unfold suf
  rw [drop_gt h.1 h.2]
/-- Kasai: the next end begins like its neighbour at least one byte less. -/
theorem kasai (h : isSa s o) {i : Int} {a b : Int} (hi : inT s i) (ha : 0 ≤ a) (hab : a < b) (hb : b < o.length) (eb : gt o b = i) {r : Int} (hr : 0 ≤ r) (hr2 : r < o.length) (er : gt o r = i + 1) (hc : 1 < lcpI s i (gt o a)) :
    1 ≤ r ∧ lcpI s i (gt o a) - 1 ≤ lcpI s (i + 1) (gt o (r - 1)) := by
  have hj := sa_gt h ha (show a < o.length by omega)
  have ej := suf_cons hj
  have ei := suf_cons hi
  have hl := sa_lt h ha hab hb
  unfold lcpI at hc ⊢
  rw [eb] at hl
  rw [ei, ej] at hl hc ⊢
  rw [lcp_cons] at hc ⊢
  split at hc
  case isFalse => exact absurd hc (by decide)
  rename_i e
  rw [if_pos e]
  have hl' : lexLt (suf s (gt o a + 1)) (suf s (i + 1)) := by
    rcases hl with q | ⟨_, q⟩
    · rw [e] at q; exact absurd q (u8_irrefl _)
    · exact q
  have hjn : inT s (gt o a + 1) := by
    obtain ⟨j0, j1⟩ := hj
    refine ⟨by omega, ?_⟩
    rcases Int.lt_or_le (gt o a + 1) s.length with q | q
    · exact q
    · rw [suf_out q] at hc
      rw [lcp_nil_r] at hc
      exact absurd hc (by decide)
  obtain ⟨q, q0, q1, eq⟩ := mem_gt (sa_mem h hjn)
  rw [← eq, ← er] at hl'
  have hqr := (sa_lt_iff h q0 hr q1 hr2).1 hl'
  refine ⟨by omega, ?_⟩
  have := lcp_nb h q0 (show q ≤ r - 1 by omega) (show r - 1 ≤ r by omega) (Int.le_refl r) hr2
  rw [er, eq] at this
  unfold lcpI at this
  rw [lcp_comm (suf s (i + 1)) (suf s (gt o (r - 1))), lcp_comm (suf s (i + 1))]
  omega

/-! ### Sums -/
def sumL : List Int → Int
  | [] => 0
  | a :: r => a + sumL r
theorem sumL_append (l m : List Int) : sumL (l ++ m) = sumL l + sumL m := by
  induction l with
  | nil => simp [sumL]
  | cons a r ih => simp only [List.cons_append, sumL, ih]; omega
theorem sumL_perm {l m : List Int} (h : l.Perm m) : sumL l = sumL m := by
  induction h with
  | nil => rfl
  | cons a _ ih => simp only [sumL, ih]
  | swap a b l => simp only [sumL]; omega
  | trans _ _ h1 h2 => rw [h1, h2]
theorem sumL_upTo : ∀ n : Nat, 2 * sumL (upTo n) = n * (n - 1)
  | 0 => rfl
  | n + 1 => by
    have := sumL_upTo n
    rw [upTo_succ, sumL_append, Int.mul_add, this]
    simp only [sumL]
    push_cast
    rw [Int.mul_sub, Int.mul_sub, Int.add_mul, Int.mul_add, Int.mul_add]
    omega
end
end Go.Fu
