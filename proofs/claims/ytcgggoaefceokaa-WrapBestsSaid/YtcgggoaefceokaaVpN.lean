/-
  Costs of lines of words: what the two ways of counting them come to.
-/
import Derived.Test.YtcgggoaefceokaaVpF
set_option linter.unusedVariables false
set_option linter.unusedSimpArgs false
namespace Go.Fu
open Go.Vc
noncomputable section
/-- Where the line that begins at place x of s ends. -/
def nxt (w s : List Int) (x : Int) : Int := if x + 1 < s.length then gt s (x + 1) else w.length
theorem sq_le {a : Int} (h0 : 0 ≤ a) (h1 : a ≤ 60) : a * a ≤ 3600 := Int.mul_le_mul h1 h1 h0 (by omega)
theorem costEnd_drop {w s : List Int} {wide x : Int} (h0 : 0 ≤ x) (h1 : x < s.length) : costEnd w wide (s.drop x.toNat) w.length =
    open Classical in if lineOk w wide (gt s x) (nxt w s x) then (costEnd w wide (s.drop (x + 1).toNat) w.length).map (ec w wide (gt s x) (nxt w s x) + ·) else none := by
  rw [drop_gt h0 h1]
  by_cases h : x + 1 < s.length
  · rw [show nxt w s x = gt s (x + 1) from if_pos h, drop_gt (by omega) h]
    simp only [costEnd]
  · rw [show nxt w s x = w.length from if_neg h, List.drop_of_length_le (by omega)]
    simp only [costEnd]
    split <;> simp
theorem cost_bad {w s : List Int} {wide x : Int} (h0 : 0 ≤ x) (h1 : x < s.length) (h : ¬ lineOk w wide (gt s x) (nxt w s x)) : costEnd w wide (s.drop x.toNat) w.length = none := by
  rw [costEnd_drop h0 h1, if_neg h]
theorem cost_up {w s : List Int} {wide : Int} : ∀ (x : Nat), (x : Int) ≤ s.length → costEnd w wide (s.drop x) w.length = none → costGo w wide s = none
  | 0, _, h => h
  | x + 1, hx, h => by
    refine cost_up x (by omega) ?_
    have := costEnd_drop (w := w) (s := s) (wide := wide) (x := x) (by omega) (by omega)
    rw [show ((x : Int) + 1).toNat = x + 1 by omega, h] at this
    simp only [Int.toNat_natCast, Option.map_none, ite_self] at this
    exact this
theorem cost_none {w s : List Int} {wide x : Int} (h0 : 0 ≤ x) (h1 : x < s.length) (h : ¬ lineOk w wide (gt s x) (nxt w s x)) : costGo w wide s = none := by
  have := cost_up (w := w) (s := s) (wide := wide) x.toNat (by omega) (cost_bad h0 h1 h)
  exact this
theorem wrapCost_a {w : List Int} {wide : Int} {s : List Int} (h : wrapFault w wide ≠ 0) : wrapCost w wide s = (0, wrapFault w wide) := by
  unfold wrapCost; rw [if_pos h]
theorem wrapCost_b {w : List Int} {wide : Int} {s : List Int} (h : wrapFault w wide = 0) (hs : s.length = 0) : wrapCost w wide s = if w.length = 0 then (0, 0) else (0, 4) := by
  have hs : s = [] := List.length_eq_zero_iff.1 hs
  unfold wrapCost; rw [if_neg (by rw [h]; simp), if_pos hs]
  by_cases e : w = []
  · rw [if_pos e, if_pos (by simp [e])]
  · rw [if_neg e, if_neg (by simpa using e)]
theorem wrapCost_none {w : List Int} {wide : Int} {s : List Int} (h : wrapFault w wide = 0) (hs : ¬ s.length = 0) (h0 : costGo w wide s = none) : wrapCost w wide s = (0, 4) := by
  unfold wrapCost; rw [if_neg (by rw [h]; simp), if_neg (by simpa using hs), h0]
  split <;> rfl
theorem wrapCost_at {w : List Int} {wide : Int} {s : List Int} (h : wrapFault w wide = 0) (hs : ¬ s.length = 0) (h0 : gt s 0 ≠ 0) : wrapCost w wide s = (0, 4) := by
  unfold wrapCost; rw [if_neg (by rw [h]; simp), if_neg (by simpa using hs), if_neg h0]
theorem wrapCost_some {w : List Int} {wide c : Int} {s : List Int} (h : wrapFault w wide = 0) (hs : ¬ s.length = 0) (h0 : gt s 0 = 0) (hc : costGo w wide s = some c) : wrapCost w wide s = (c, 0) := by
  unfold wrapCost; rw [if_neg (by rw [h]; simp), if_neg (by simpa using hs), if_pos h0, hc]
theorem cost_nil {s : List Int} {wide : Int} (hs : ¬ s.length = 0) : costGo [] wide s = none := by
  refine cost_none (x := 0) (by omega) (by omega) ?_
  rintro ⟨h1, h2, h3, h4⟩
  simp only [List.length_nil] at h3
  omega
theorem cost_step {w s : List Int} {wide x c : Int} (h : costGo w wide s = (costEnd w wide (s.drop x.toNat) w.length).map (c + ·)) (h0 : 0 ≤ x) (h1 : x < s.length) (hk : lineOk w wide (gt s x) (nxt w s x)) :
    costGo w wide s = (costEnd w wide (s.drop (x + 1).toNat) w.length).map ((c + (if x + 1 < s.length then (wide - lw w (gt s x) (nxt w s x)) * (wide - lw w (gt s x) (nxt w s x)) else 0)) + ·) := by
  rw [costEnd_drop h0 h1, if_pos hk] at h
  rw [h]
  have hle := hk.2.2.1
  by_cases e : x + 1 < s.length
  · rw [if_pos e]
    by_cases e2 : nxt w s x < w.length
    · simp only [ec, if_pos e2, Option.map_map]
      congr 1
      funext y
      simp only [Function.comp]
      omega
    · have en : nxt w s x = gt s (x + 1) := if_pos e
      rw [cost_bad (x := x + 1) (by omega) e]
      · rfl
      · rintro ⟨a, b, c, d⟩; omega
  · have en : nxt w s x = w.length := if_neg e
    rw [if_neg e]
    simp only [ec, en, Option.map_map]
    congr 1
    funext y
    simp only [Function.comp]
    rw [if_neg (by omega)]
    omega
theorem cost_start (w s : List Int) (wide : Int) : costGo w wide s = (costEnd w wide (s.drop (0 : Int).toNat) w.length).map (0 + ·) := by
  simp [costGo]
theorem cost_done {w s : List Int} {wide c x : Int} (h : costGo w wide s = (costEnd w wide (s.drop x.toNat) w.length).map (c + ·)) (hx : x = s.length) : costGo w wide s = some c := by
  rw [h, List.drop_of_length_le (by omega)]; simp [costEnd]
theorem lw_bd {w : List Int} {wide i j : Int} (hw : ∀ n ∈ w, 1 ≤ n ∧ n ≤ wide) (h0 : 0 ≤ i) (h1 : i < j) (h2 : j ≤ w.length) : 0 ≤ lw w i j ∧ lw w i j ≤ (wide + 1) * (j - i) := by
  have key : ∀ (k : Nat) (i : Int), 0 ≤ i → i + (k : Int) < j → j = i + k + 1 → 0 ≤ lw w i j ∧ lw w i j ≤ (wide + 1) * (j - i) := by
    intro k
    induction k with
    | zero =>
      intro i h0 h1 hj
      have hg := hw _ (gt_mem (l := w) (i := i) h0 (by omega))
      rw [show j = i + 1 by omega, lw_succ h0 (by omega) (by omega), lw_self h0, show i + 1 - i = 1 by omega]
      omega
    | succ k ih =>
      intro i h0 h1 hj
      have hg := hw _ (gt_mem (l := w) (i := i) h0 (by omega))
      have := ih (i + 1) (by omega) (by omega) (by omega)
      rw [lw_cons h0 (by omega) (by omega), show j - i = (j - (i + 1)) + 1 by omega, Int.mul_add]
      omega
  exact key (j - i - 1).toNat i h0 (by omega) (by omega)
theorem lw_right {w : List Int} {i j k : Int} (hw : ∀ n ∈ w, 1 ≤ n) (h0 : 0 ≤ i) (h1 : i ≤ j) (h2 : j ≤ k) (h3 : k ≤ w.length) : lw w i j ≤ lw w i k := by
  have key : ∀ n : Nat, j + n ≤ w.length → lw w i j ≤ lw w i (j + n) := by
    intro n
    induction n with
    | zero => intro _; simp
    | succ n ih =>
      intro hn
      have := ih (by omega)
      have hg := hw _ (gt_mem (l := w) (i := j + n) (by omega) (by omega))
      rw [show j + ((n + 1 : Nat) : Int) = j + n + 1 by omega, lw_succ h0 (by omega) (by omega)]
      omega
  have := key (k - j).toNat (by omega)
  rwa [show j + ((k - j).toNat : Int) = k by omega] at this
theorem lw_left {w : List Int} {i j k : Int} (hw : ∀ n ∈ w, 1 ≤ n) (h0 : 0 ≤ i) (h1 : i ≤ k) (h2 : k < j) (h3 : j ≤ w.length) : lw w k j ≤ lw w i j := by
  have key : ∀ (n : Nat) (i : Int), 0 ≤ i → i + n = k → lw w k j ≤ lw w i j := by
    intro n
    induction n with
    | zero => intro i h0 e; rw [show i = k by omega]; omega
    | succ n ih =>
      intro i h0 e
      have := ih (i + 1) (by omega) (by omega)
      have hg := hw _ (gt_mem (l := w) (i := i) h0 (by omega))
      rw [lw_cons h0 (by omega) h3]
      omega
  exact key (k - i).toNat i h0 (by omega)
/-! least costs -/
def wbLeast (w : List Int) (wide j c : Int) : Prop := Wb w wide j c ∧ ∀ d, Wb w wide j d → c ≤ d
def rchLeast (w : List Int) (wide j c : Int) : Prop := Rch w wide j c ∧ ∀ d, Rch w wide j d → c ≤ d
theorem wbLeast_end (w : List Int) (wide : Int) : wbLeast w wide w.length 0 := ⟨.nil, fun d h => wb_nn h⟩
theorem rchLeast_zero (w : List Int) (wide : Int) : rchLeast w wide 0 0 := ⟨.nil, fun d h => (rch_nn h).1⟩
theorem wbLeast_step {w : List Int} {wide i k c : Int} (hi : i < w.length) (hk : lineOk w wide i k) (h : wbLeast w wide k c)
    (hm : ∀ k', lineOk w wide i k' → ∃ c', wbLeast w wide k' c' ∧ ec w wide i k + c ≤ ec w wide i k' + c') : wbLeast w wide i (ec w wide i k + c) := by
  refine ⟨.cons hk h.1, fun d hd => ?_⟩
  cases hd with
  | nil => omega
  | cons hk' h' =>
    obtain ⟨c', h1, h2⟩ := hm _ hk'
    have := h1.2 _ h'
    omega
theorem rchLeast_step {w : List Int} {wide i k c : Int} (hi : 0 < k) (hk : lineOk w wide i k) (h : rchLeast w wide i c)
    (hm : ∀ i', lineOk w wide i' k → ∃ c', rchLeast w wide i' c' ∧ c + ec w wide i k ≤ c' + ec w wide i' k) : rchLeast w wide k (c + ec w wide i k) := by
  refine ⟨.snoc h.1 hk, fun d hd => ?_⟩
  cases hd with
  | nil => omega
  | snoc h' hk' =>
    obtain ⟨c', h1, h2⟩ := hm _ hk'
    have := h1.2 _ h'
    omega
theorem wb_leastOk {w : List Int} {wide c : Int} (h : wbLeast w wide 0 c) : leastOk w wide c := by
  refine ⟨by have := wb_rch h.1 .nil; rwa [Int.zero_add] at this, fun d hd => ?_⟩
  have := rch_wb hd .nil
  rw [Int.add_zero] at this
  exact h.2 d this
theorem ec_bd {w : List Int} {wide i j : Int} (hw : ∀ n ∈ w, 1 ≤ n ∧ n ≤ wide) (h2 : wide ≤ 60) (h : lineOk w wide i j) : ec w wide i j ≤ 3600 := by
  unfold ec
  split
  · have := lw_bd hw h.1 h.2.1 h.2.2.1
    exact sq_le (by have := h.2.2.2; omega) (by omega)
  · omega
/-- What the tables hold for the words from j on. -/
def bestOk (w : List Int) (wide : Int) (cost next : List Int) (j : Int) : Prop :=
  wbLeast w wide j (gt cost j) ∧ gt cost j ≤ 3600 * (w.length - j) ∧ (j < w.length → lineOk w wide j (gt next j) ∧ gt cost j = ec w wide j (gt next j) + gt cost (gt next j))
theorem bestOk_congr {w : List Int} {wide j : Int} {cost next cost' next' : List Int} (hc : ∀ k, j ≤ k → gt cost' k = gt cost k) (hn : gt next' j = gt next j) (h : bestOk w wide cost next j) : bestOk w wide cost' next' j := by
  obtain ⟨h1, h2, h3⟩ := h
  refine ⟨by rw [hc j (by omega)]; exact h1, by rw [hc j (by omega)]; exact h2, fun t => ?_⟩
  obtain ⟨g1, g2⟩ := h3 t
  rw [hn, hc j (by omega), hc _ (by have := g1.2.1; omega)]
  exact ⟨g1, g2⟩
/-- What they hold for the line at i, of the ends up to k. -/
def bestAt (w : List Int) (wide : Int) (cost next : List Int) (i k : Int) : Prop :=
  (k = i ∧ gt cost i = -1) ∨ (i < k ∧ lineOk w wide i (gt next i) ∧ gt cost i = ec w wide i (gt next i) + gt cost (gt next i) ∧ ∀ k', i < k' → k' ≤ k → lineOk w wide i k' → gt cost i ≤ ec w wide i k' + gt cost k')
theorem best_fin {w : List Int} {wide : Int} {cost next : List Int} {i k : Int} (hw : ∀ n ∈ w, 1 ≤ n ∧ n ≤ wide) (h60 : wide ≤ 60) (hi : i < w.length) (hik : i < k)
    (ha : ∀ j, i < j → j ≤ w.length → bestOk w wide cost next j) (h : bestAt w wide cost next i k) (hk : ∀ k', k < k' → ¬ lineOk w wide i k') : bestOk w wide cost next i := by
  rcases h with ⟨h, _⟩ | ⟨_, h1, h2, h3⟩
  · omega
  · have hn := ha (gt next i) (by have := h1.2.1; omega) h1.2.2.1
    refine ⟨?_, ?_, fun _ => ⟨h1, h2⟩⟩
    · rw [h2]
      refine wbLeast_step hi h1 hn.1 fun k' hk' => ⟨gt cost k', (ha k' hk'.2.1 hk'.2.2.1).1, ?_⟩
      rw [← h2]
      refine h3 k' hk'.2.1 ?_ hk'
      rcases Int.lt_or_le k k' with c | c
      · exact absurd hk' (hk k' c)
      · exact c
    · have := ec_bd hw h60 h1
      have := hn.2.1
      have := h1.2.1
      omega
theorem cost_n {w : List Int} {wide : Int} {cost next : List Int} (h : bestOk w wide cost next w.length) : gt cost w.length = 0 := by
  have := h.1.2 0 .nil
  have := wb_nn h.1.1
  omega
end
end Go.Fu
