/-
  Plain laws of numbers of texts, spans, lines.
-/
import Derived.Test.YtfelfimcnidplaaVpB
set_option linter.unusedVariables false
set_option linter.unusedSimpArgs false
namespace Go.Fu
open Go.Vc

theorem mulB {a d : Int} (h1 : 0 ≤ a) (h2 : a < 2147483647) (h3 : 0 ≤ d) (h4 : d < 2147483647) : 0 ≤ a * d ∧ a * d ≤ 4611686009837453316 := by
  refine ⟨Int.mul_nonneg h1 h3, ?_⟩
  have := Int.mul_le_mul (show a ≤ 2147483646 by omega) (show d ≤ 2147483646 by omega) h3 (by omega)
  omega

theorem polyOf_snoc (s : Bytes) (c : UInt8) : polyOf (s ++ [c]) = polyStep (polyOf s) c := by simp [polyOf]
theorem polyStep_bd (h : Int × Int) (c : UInt8) : 0 ≤ (polyStep h c).1 ∧ (polyStep h c).1 < 2147483647 ∧ 0 ≤ (polyStep h c).2 ∧ (polyStep h c).2 < 2147483647 := by
  simp only [polyStep]
  omega
theorem snoc_cases {α : Type} (s : List α) : s = [] ∨ ∃ t c, s = t ++ [c] := by
  rcases List.eq_nil_or_concat s with h | ⟨t, c, h⟩
  · exact .inl h
  · exact .inr ⟨t, c, by simpa using h⟩
theorem polyOf_bd (s : Bytes) : 0 ≤ (polyOf s).1 ∧ (polyOf s).1 < 2147483647 ∧ 0 ≤ (polyOf s).2 ∧ (polyOf s).2 < 2147483647 := by
  rcases snoc_cases s with rfl | ⟨t, c, rfl⟩
  · simp [polyOf]
  · rw [polyOf_snoc]; exact polyStep_bd _ _
theorem snoc_rec {α : Type} {P : List α → Prop} (h0 : P []) (h1 : ∀ s c, P s → P (s ++ [c])) (s : List α) : P s := by
  have : ∀ n (s : List α), s.length = n → P s := by
    intro n
    induction n with
    | zero => intro s hs; rw [List.length_eq_zero_iff.1 hs]; exact h0
    | succ n ih =>
      intro s hs
      rcases snoc_cases s with rfl | ⟨t, c, rfl⟩
      · simp at hs
      · exact h1 _ _ (ih t (by simpa using hs))
  exact this _ s rfl
/-- A text behind another one. -/
theorem poly_from (v w : Int) : ∀ s : Bytes, s ≠ [] → s.foldl polyStep (v, w) = ((v * (polyOf s).2 + (polyOf s).1) % 2147483647, (w * (polyOf s).2) % 2147483647) := by
  intro s
  induction s using snoc_rec with
  | h0 => intro h; exact absurd rfl h
  | h1 s c ih =>
    intro _
    rw [List.foldl_append, polyOf_snoc]
    simp only [List.foldl_cons, List.foldl_nil]
    by_cases hs : s = []
    · subst hs
      simp only [List.foldl_nil, polyStep, polyOf]
      refine Prod.ext ?_ ?_ <;> simp only
      · omega
      · omega
    · rw [ih hs]
      simp only [polyStep]
      generalize (polyOf s).2 = S
      generalize (polyOf s).1 = V
      have e1 : v * (S * 257 % 2147483647) = 257 * (v * S) - 2147483647 * (v * (S * 257 / 2147483647)) := by
        have : S * 257 % 2147483647 = S * 257 - 2147483647 * (S * 257 / 2147483647) := by omega
        rw [this, Int.mul_sub]
        have a1 : v * (S * 257) = 257 * (v * S) := by rw [← Int.mul_assoc, Int.mul_comm]
        have a2 : v * (2147483647 * (S * 257 / 2147483647)) = 2147483647 * (v * (S * 257 / 2147483647)) := Int.mul_left_comm _ _ _
        rw [a1, a2]
      have e2 : w * (S * 257 % 2147483647) = 257 * (w * S) - 2147483647 * (w * (S * 257 / 2147483647)) := by
        have : S * 257 % 2147483647 = S * 257 - 2147483647 * (S * 257 / 2147483647) := by omega
        rw [this, Int.mul_sub]
        have a1 : w * (S * 257) = 257 * (w * S) := by rw [← Int.mul_assoc, Int.mul_comm]
        have a2 : w * (2147483647 * (S * 257 / 2147483647)) = 2147483647 * (w * (S * 257 / 2147483647)) := Int.mul_left_comm _ _ _
        rw [a1, a2]
      rw [e1, e2]
      generalize v * S = A
      generalize v * (S * 257 / 2147483647) = B
      generalize w * S = C
      generalize w * (S * 257 / 2147483647) = D
      refine Prod.ext ?_ ?_ <;> simp only
      · omega
      · omega
theorem polyOf_cons (c : UInt8) (s : Bytes) : polyOf (c :: s) = ((((c.toNat : Int) + 1) * (polyOf s).2 + (polyOf s).1) % 2147483647, (polyOf s).2 * 257 % 2147483647) := by
  by_cases hs : s = []
  · subst hs; simp only [polyOf, List.foldl_cons, List.foldl_nil, polyStep]
    refine Prod.ext (by simp only; omega) rfl
  · have e : polyOf (c :: s) = s.foldl polyStep ((c.toNat : Int) + 1, 257) := by
      simp only [polyOf, List.foldl_cons, polyStep]
      have := byte_lt c
      congr 1
      refine Prod.ext ?_ ?_ <;> simp only
      · omega
      · omega
    rw [e, poly_from _ _ s hs, Int.mul_comm 257]

/-! lines -/
def linesRec : Bytes → Bytes → List Bytes
  | cur, [] => [cur]
  | cur, c :: s => if c = 10 then cur :: linesRec [] s else linesRec (cur ++ [c]) s
theorem cut_rec : ∀ (s : Bytes) (pre : List Bytes) (cur : Bytes), s.foldl cutStep (pre ++ [cur]) = pre ++ linesRec cur s
  | [], pre, cur => by simp [linesRec]
  | c :: s, pre, cur => by
    simp only [List.foldl_cons, linesRec, cutStep]
    split
    · rw [cut_rec s (pre ++ [cur]) []]; simp
    · have : (pre ++ [cur]).dropLast ++ [(pre ++ [cur]).getLastD [] ++ [c]] = pre ++ [cur ++ [c]] := by simp
      rw [this, cut_rec s pre (cur ++ [c])]
theorem cutLines_rec (s : Bytes) : cutLines s = linesRec [] s := by
  have := cut_rec s [] []
  simpa [cutLines] using this
def sumStarts : Int → List Bytes → List Int
  | _, [] => []
  | at_, s :: r => at_ :: sumStarts (at_ + s.length + 1) r
theorem sum_rec : ∀ (s : Bytes) (cur : Bytes) (at_ : Int), sumStarts at_ (linesRec cur s) = at_ :: startsFrom (at_ + cur.length) s
  | [], cur, at_ => by simp [linesRec, sumStarts, startsFrom]
  | c :: s, cur, at_ => by
    simp only [linesRec, startsFrom]
    split
    · simp only [sumStarts]
      rw [sum_rec s [] _]
      simp
    · rw [sum_rec s (cur ++ [c]) at_]
      simp [Int.add_assoc]
theorem sum_cut (s : Bytes) : sumStarts 0 (cutLines s) = startsOf s := by
  rw [cutLines_rec, sum_rec]; simp [startsOf]
theorem linesRec_len : ∀ (s cur : Bytes), (linesRec cur s).length ≤ s.length + 1 ∧ ∀ l ∈ linesRec cur s, l.length ≤ cur.length + s.length
  | [], cur => by simp [linesRec]
  | c :: s, cur => by
    simp only [linesRec]
    split
    · have := linesRec_len s []
      refine ⟨by simp; omega, fun l hl => ?_⟩
      rcases List.mem_cons.1 hl with rfl | hl
      · simp
      · have := this.2 l hl
        simp at this ⊢
        omega
    · have := linesRec_len s (cur ++ [c])
      refine ⟨by simp; omega, fun l hl => ?_⟩
      have := this.2 l hl
      simp at this ⊢
      omega
theorem cutLines_len (s : Bytes) : (cutLines s).length ≤ s.length + 1 ∧ ∀ l ∈ cutLines s, l.length ≤ s.length := by
  rw [cutLines_rec]
  have := linesRec_len s []
  simpa using this
theorem startsFrom_len : ∀ (s : Bytes) (i : Int), (startsFrom i s).length ≤ s.length
  | [], _ => by simp [startsFrom]
  | c :: s, i => by
    have := startsFrom_len s (i + 1)
    simp only [startsFrom]
    split <;> simp <;> omega
theorem sub_one {α : Type} [Inhabited α] {s : List α} {i : Int} (h0 : 0 ≤ i) (h1 : i < s.length) : List.drop i.toNat (List.take (i + 1).toNat s) = [gt s i] := by
  rw [take_gt h0 h1, List.drop_left']
  simp; omega
theorem set_last {α : Type} : ∀ (l : List α) (v : α), l ≠ [] → l.set (l.length - 1) v = l.dropLast ++ [v]
  | [], _, h => absurd rfl h
  | [a], v, _ => rfl
  | a :: b :: l, v, _ => by
    have := set_last (b :: l) v (by simp)
    simp only [List.length_cons, Nat.add_sub_cancel, List.dropLast_cons_cons, List.cons_append] at this ⊢
    rw [List.set_cons_succ, ← this]
theorem gt_last {α : Type} [Inhabited α] {l : List α} {d : α} (h : l ≠ []) : gt l ((l.length : Int) - 1) = l.getLastD d := by
  rcases snoc_cases l with rfl | ⟨t, c, rfl⟩
  · exact absurd rfl h
  · rw [show (((t ++ [c]).length : Nat) : Int) - 1 = t.length by simp, gt_append_last]
    simp
theorem byte10 {b : UInt8} : ((b.toNat : Int) = 10) ↔ b = 10 := by
  constructor
  · intro h
    exact UInt8.toNat_inj.1 (show b.toNat = (10 : UInt8).toNat by have : (10 : UInt8).toNat = 10 := rfl; omega)
  · intro h; subst h; rfl

/-! the nearest of some -/
section
variable {k : Int → Int} {a x b hi : Int}
theorem near_skip (h : nearOk k a 0 x b) (hx : k x < a) : nearOk k a 0 (x + 1) b := by
  rcases h with ⟨rfl, h1⟩ | ⟨a1, a2, a3, a4, a5⟩
  · refine .inl ⟨rfl, fun i i0 i1 => ?_⟩
    by_cases e : i = x
    · rw [e]; exact hx
    · exact h1 i i0 (by omega)
  · refine .inr ⟨a1, by omega, a3, fun i i0 i1 i2 => ?_, a5⟩
    by_cases e : i = x
    · rw [e] at i2; omega
    · exact a4 i i0 (by omega) i2
theorem near_take (h : nearOk k a 0 x b) (h0 : 0 ≤ x) (hx : a ≤ k x) (hb : b < 0 ∨ k x < k b) : nearOk k a 0 (x + 1) x := by
  refine .inr ⟨h0, by omega, hx, fun i i0 i1 i2 => ?_, fun i i0 i1 i2 => ?_⟩
  · by_cases e : i = x
    · rw [e]; exact Int.le_refl _
    · rcases h with ⟨rfl, h1⟩ | ⟨a1, a2, a3, a4, a5⟩
      · have := h1 i i0 (by omega); omega
      · have := a4 i i0 (by omega) i2; omega
  · rcases h with ⟨rfl, h1⟩ | ⟨a1, a2, a3, a4, a5⟩
    · have := h1 i i0 i1; omega
    · have := a4 i i0 i1 i2; omega
theorem near_keep (h : nearOk k a 0 x b) (hx : a ≤ k x) (hb : ¬ (b < 0 ∨ k x < k b)) : nearOk k a 0 (x + 1) b := by
  rcases h with ⟨rfl, h1⟩ | ⟨a1, a2, a3, a4, a5⟩
  · omega
  · refine .inr ⟨a1, by omega, a3, fun i i0 i1 i2 => ?_, a5⟩
    by_cases e : i = x
    · rw [e]; omega
    · exact a4 i i0 (by omega) i2
theorem back_skip (h : nearOk k a (x + 1) hi b) (hx : k x < a) : nearOk k a x hi b := by
  rcases h with ⟨rfl, h1⟩ | ⟨a1, a2, a3, a4, a5⟩
  · refine .inl ⟨rfl, fun i i0 i1 => ?_⟩
    by_cases e : i = x
    · rw [e]; exact hx
    · exact h1 i (by omega) i1
  · refine .inr ⟨by omega, a2, a3, fun i i0 i1 i2 => ?_, fun i i0 i1 i2 => ?_⟩
    · by_cases e : i = x
      · rw [e] at i2; omega
      · exact a4 i (by omega) i1 i2
    · by_cases e : i = x
      · rw [e] at i2; omega
      · exact a5 i (by omega) i1 i2
theorem back_take (h : nearOk k a (x + 1) hi b) (h1 : x < hi) (h0 : 0 ≤ x) (hx : a ≤ k x) (hb : b < 0 ∨ k x ≤ k b) : nearOk k a x hi x := by
  refine .inr ⟨by omega, h1, hx, fun i i0 i1 i2 => ?_, fun i i0 i1 i2 => by omega⟩
  by_cases e : i = x
  · rw [e]; exact Int.le_refl _
  · rcases h with ⟨rfl, h1⟩ | ⟨a1, a2, a3, a4, a5⟩
    · have := h1 i (by omega) i1; omega
    · have := a4 i (by omega) i1 i2; omega
theorem back_keep (h : nearOk k a (x + 1) hi b) (hx : a ≤ k x) (hb : ¬ (b < 0 ∨ k x ≤ k b)) : nearOk k a x hi b := by
  rcases h with ⟨rfl, h1⟩ | ⟨a1, a2, a3, a4, a5⟩
  · omega
  · refine .inr ⟨by omega, a2, a3, fun i i0 i1 i2 => ?_, fun i i0 i1 i2 => ?_⟩
    · by_cases e : i = x
      · rw [e]; omega
      · exact a4 i (by omega) i1 i2
    · by_cases e : i = x
      · rw [e]; omega
      · exact a5 i (by omega) i1 i2
end
end Go.Fu
