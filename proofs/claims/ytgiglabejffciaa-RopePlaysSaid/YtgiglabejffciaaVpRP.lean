/-
  Ropes: trees of texts, joined and split so that they stay shallow.
-/
import Derived.Test.YtgiglabejffciaaVpG
set_option linter.unusedVariables false
set_option linter.unusedSimpArgs false
namespace Go.Fu
open Go.Vc
inductive Rp where
  | leaf (s : Bytes)
  | node (a b : Rp)
def Rp.txt : Rp → Bytes
  | .leaf s => s
  | .node a b => a.txt ++ b.txt
def Rp.deep : Rp → Nat
  | .leaf _ => 1
  | .node a b => max a.deep b.deep + 1
def Rp.bal : Rp → Prop
  | .leaf s => s ≠ []
  | .node a b => a.bal ∧ b.bal ∧ a.deep ≤ b.deep + 1 ∧ b.deep ≤ a.deep + 1
theorem Rp.deep_pos : ∀ r : Rp, 1 ≤ r.deep
  | .leaf _ => Nat.le_refl _
  | .node a b => by simp [Rp.deep]
def rNewF : Nat → Bytes → Rp
  | 0, s => .leaf s
  | n + 1, s => if s.length ≤ 8 then .leaf s else .node (rNewF n (s.take (s.length / 2))) (rNewF n (s.drop (s.length / 2)))
theorem rNewF_more : ∀ (n m : Nat) (s : Bytes), s.length ≤ n + 8 → n ≤ m → rNewF m s = rNewF n s
  | 0, 0, s, _, _ => rfl
  | 0, m + 1, s, h, _ => by simp only [rNewF]; rw [if_pos (by omega)]
  | n + 1, 0, s, _, h => by omega
  | n + 1, m + 1, s, h, hm => by
    simp only [rNewF]
    split
    · rfl
    · rename_i c
      rw [rNewF_more n m _ (by rw [List.length_take]; omega) (by omega), rNewF_more n m _ (by rw [List.length_drop]; omega) (by omega)]
def rNew (s : Bytes) : Rp := rNewF s.length s
theorem rNew_small {s : Bytes} (h : s.length ≤ 8) : rNew s = .leaf s := by
  unfold rNew
  cases hl : s.length with
  | zero => rfl
  | succ n => simp only [rNewF]; rw [if_pos h]
theorem rNew_big {s : Bytes} (h : ¬ s.length ≤ 8) : rNew s = .node (rNew (s.take (s.length / 2))) (rNew (s.drop (s.length / 2))) := by
  have e : rNew s = .node (rNewF (s.length - 1) (s.take (s.length / 2))) (rNewF (s.length - 1) (s.drop (s.length / 2))) := by
    unfold rNew
    obtain ⟨n, hn⟩ : ∃ n, s.length = n + 1 := ⟨s.length - 1, by omega⟩
    rw [hn]; simp only [rNewF]
    rw [if_neg h, ← hn, show s.length - 1 = n by omega]
  have f : ∀ t : Bytes, t.length ≤ s.length - 1 → rNewF (s.length - 1) t = rNew t := fun t ht => by
    unfold rNew
    exact rNewF_more _ _ _ (by omega) ht
  rw [e, f _ (by rw [List.length_take]; omega), f _ (by rw [List.length_drop]; omega)]
def rBal (a b : Rp) : Rp :=
  if b.deep + 1 < a.deep then (match a with
    | .node x y => if y.deep ≤ x.deep then .node x (.node y b) else (match y with
      | .node p q => .node (.node x p) (.node q b)
      | .leaf s => .node (.node x (.leaf s)) b)
    | .leaf s => .node (.leaf s) b)
  else if a.deep + 1 < b.deep then (match b with
    | .node x y => if x.deep ≤ y.deep then .node (.node a x) y else (match x with
      | .node p q => .node (.node a p) (.node q y)
      | .leaf s => .node (.node a (.leaf s)) y)
    | .leaf s => .node a (.leaf s))
  else .node a b
def rTiny : Rp → Rp → Option Bytes
  | .leaf s, .leaf t => if s.length + t.length ≤ 8 then some (s ++ t) else none
  | _, _ => none
def rJoinF : Nat → Rp → Rp → Rp
  | 0, a, b => .node a b
  | n + 1, a, b => match rTiny a b with
    | some s => .leaf s
    | none => if b.deep + 1 < a.deep then (match a with
        | .node x y => rBal x (rJoinF n y b)
        | .leaf s => .node (.leaf s) b)
      else if a.deep + 1 < b.deep then (match b with
        | .node x y => rBal (rJoinF n a x) y
        | .leaf s => .node a (.leaf s))
      else .node a b
def rJoin (a b : Rp) : Rp := rJoinF (a.deep + b.deep) a b
theorem rJoinF_more : ∀ (n m : Nat) (a b : Rp), a.deep + b.deep ≤ n → n ≤ m → rJoinF m a b = rJoinF n a b
  | 0, m, a, b, h, _ => by have := a.deep_pos; omega
  | n + 1, 0, a, b, _, h => by omega
  | n + 1, m + 1, a, b, h, hm => by
    simp only [rJoinF]
    split
    · rfl
    · split
      · cases a with
        | leaf s => rfl
        | node x y => simp only; rw [rJoinF_more n m y b (by simp only [Rp.deep] at h; omega) (by omega)]
      · split
        · cases b with
          | leaf s => rfl
          | node x y => simp only; rw [rJoinF_more n m a x (by simp only [Rp.deep] at h; omega) (by omega)]
        · rfl
theorem rJoin_tiny {a b : Rp} {s : Bytes} (h : rTiny a b = some s) : rJoin a b = .leaf s := by
  unfold rJoin
  obtain ⟨n, hn⟩ : ∃ n, a.deep + b.deep = n + 1 := ⟨a.deep + b.deep - 1, by have := a.deep_pos; omega⟩
  rw [hn]; simp only [rJoinF, h]
theorem rJoin_left {x y b : Rp} (h : b.deep + 1 < (Rp.node x y).deep) : rJoin (.node x y) b = rBal x (rJoin y b) := by
  have e : rJoin (.node x y) b = rBal x (rJoinF ((Rp.node x y).deep + b.deep - 1) y b) := by
    unfold rJoin
    obtain ⟨n, hn⟩ : ∃ n, (Rp.node x y).deep + b.deep = n + 1 := ⟨(Rp.node x y).deep + b.deep - 1, by have := b.deep_pos; omega⟩
    rw [hn]; simp only [rJoinF, rTiny]
    rw [if_pos h]; rfl
  rw [e]
  unfold rJoin
  rw [rJoinF_more _ _ _ _ (Nat.le_refl _) (by simp only [Rp.deep]; omega)]
theorem rJoin_right {a x y : Rp} (h : a.deep + 1 < (Rp.node x y).deep) : rJoin a (.node x y) = rBal (rJoin a x) y := by
  have e : rJoin a (.node x y) = rBal (rJoinF (a.deep + (Rp.node x y).deep - 1) a x) y := by
    unfold rJoin
    obtain ⟨n, hn⟩ : ∃ n, a.deep + (Rp.node x y).deep = n + 1 := ⟨a.deep + (Rp.node x y).deep - 1, by have := a.deep_pos; omega⟩
    rw [hn]
    have ht : rTiny a (.node x y) = none := by cases a <;> rfl
    simp only [rJoinF, ht]
    rw [if_neg (by omega), if_pos h]; rfl
  rw [e]
  unfold rJoin
  rw [rJoinF_more _ _ _ _ (Nat.le_refl _) (by simp only [Rp.deep]; omega)]
theorem rJoin_mid {a b : Rp} (h : rTiny a b = none) (h1 : ¬ b.deep + 1 < a.deep) (h2 : ¬ a.deep + 1 < b.deep) : rJoin a b = .node a b := by
  unfold rJoin
  obtain ⟨n, hn⟩ : ∃ n, a.deep + b.deep = n + 1 := ⟨a.deep + b.deep - 1, by have := a.deep_pos; omega⟩
  rw [hn]; simp only [rJoinF, h]
  rw [if_neg h1, if_neg h2]
/-! ### What they read as -/
theorem rBal_txt (a b : Rp) : (rBal a b).txt = a.txt ++ b.txt := by
  unfold rBal
  split
  · cases a with
    | leaf s => rfl
    | node x y =>
      simp only
      split
      · simp [Rp.txt]
      · cases y <;> simp [Rp.txt]
  · split
    · cases b with
      | leaf s => rfl
      | node x y =>
        simp only
        split
        · simp [Rp.txt]
        · cases x <;> simp [Rp.txt]
    · rfl
theorem rTiny_txt {a b : Rp} {s : Bytes} (h : rTiny a b = some s) : s = a.txt ++ b.txt := by
  cases a <;> cases b <;> simp only [rTiny] at h <;> first | (cases h; done) | skip
  split at h <;> cases h
  rfl
theorem rJoin_txt : ∀ (n : Nat) (a b : Rp), a.deep + b.deep ≤ n → (rJoin a b).txt = a.txt ++ b.txt
  | 0, a, b, h => by have := a.deep_pos; omega
  | n + 1, a, b, h => by
    cases ht : rTiny a b with
    | some s => rw [rJoin_tiny ht]; exact rTiny_txt ht
    | none =>
      by_cases h1 : b.deep + 1 < a.deep
      · cases a with
        | leaf s => simp only [Rp.deep] at h1; omega
        | node x y =>
          rw [rJoin_left h1, rBal_txt, rJoin_txt n y b (by simp only [Rp.deep] at h; omega)]
          simp [Rp.txt]
      · by_cases h2 : a.deep + 1 < b.deep
        · cases b with
          | leaf s => simp only [Rp.deep] at h2; omega
          | node x y =>
            rw [rJoin_right h2, rBal_txt, rJoin_txt n a x (by simp only [Rp.deep] at h; omega)]
            simp [Rp.txt]
        · rw [rJoin_mid ht h1 h2]; rfl
theorem rNew_txt : ∀ (n : Nat) (s : Bytes), s.length ≤ n → (rNew s).txt = s
  | 0, s, h => by rw [rNew_small (by omega)]; rfl
  | n + 1, s, h => by
    by_cases h8 : s.length ≤ 8
    · rw [rNew_small h8]; rfl
    · rw [rNew_big h8]
      simp only [Rp.txt]
      rw [rNew_txt n _ (by rw [List.length_take]; omega), rNew_txt n _ (by rw [List.length_drop]; omega), List.take_append_drop]
/-! ### How deep they are -/
theorem bal_len : ∀ r : Rp, r.bal → 2 ^ ((r.deep - 1) / 2) ≤ r.txt.length ∧ (2 ≤ r.deep → 2 ^ ((r.deep - 2) / 2) + 1 ≤ r.txt.length + 0 ∨ r.deep ≤ 1)
  | .leaf s, h => ⟨by simp [Rp.deep, Rp.txt]; exact Nat.pos_of_ne_zero (fun e => h (List.eq_nil_of_length_eq_zero e)), fun q => by simp [Rp.deep] at q⟩
  | .node a b, ⟨ha, hb, h1, h2⟩ => by
    have ia := (bal_len a ha).1
    have ib := (bal_len b hb).1
    have pa := a.deep_pos
    have pb := b.deep_pos
    have key : 2 ^ ((max a.deep b.deep + 1 - 1) / 2) ≤ a.txt.length + b.txt.length := by
      obtain ⟨d, hd⟩ : ∃ d, max a.deep b.deep = d + 1 := ⟨max a.deep b.deep - 1, by omega⟩
      have hlo : d / 2 ≤ (a.deep - 1) / 2 ∨ (d - 1) / 2 ≤ (a.deep - 1) / 2 := by omega
      have e1 : 2 ^ ((d - 1) / 2) ≤ a.txt.length := Nat.le_trans (Nat.pow_le_pow_right (by omega) (by omega)) ia
      have e2 : 2 ^ ((d - 1) / 2) ≤ b.txt.length := Nat.le_trans (Nat.pow_le_pow_right (by omega) (by omega)) ib
      have e3 : 2 ^ (d / 2) ≤ a.txt.length ∨ 2 ^ (d / 2) ≤ b.txt.length := by
        by_cases q : a.deep = d + 1
        · left; exact Nat.le_trans (Nat.pow_le_pow_right (by omega) (by omega)) ia
        · right; exact Nat.le_trans (Nat.pow_le_pow_right (by omega) (by omega)) ib
      rw [hd, Nat.add_sub_cancel]
      by_cases q : d % 2 = 0
      · rw [show (d + 1) / 2 = d / 2 by omega]
        rcases e3 with e3 | e3 <;> omega
      · rw [show (d + 1) / 2 = (d - 1) / 2 + 1 by omega, Nat.pow_succ]; omega
    refine ⟨by simpa [Rp.deep, Rp.txt] using key, fun _ => ?_⟩
    left
    have : 2 ^ ((max a.deep b.deep - 1) / 2) ≤ a.txt.length ∨ 2 ^ ((max a.deep b.deep - 1) / 2) ≤ b.txt.length := by
      by_cases q : b.deep ≤ a.deep
      · left; rw [Nat.max_eq_left q]; exact ia
      · right; rw [Nat.max_eq_right (by omega)]; exact ib
    have pos1 : 1 ≤ a.txt.length := Nat.le_trans Nat.one_le_two_pow ia
    have pos2 : 1 ≤ b.txt.length := Nat.le_trans Nat.one_le_two_pow ib
    simp only [Rp.deep, Rp.txt, List.length_append]
    rw [show max a.deep b.deep + 1 - 2 = max a.deep b.deep - 1 by omega]
    omega
theorem rBal_ok {a b : Rp} (ha : a.bal) (hb : b.bal) (h1 : a.deep ≤ b.deep + 2) (h2 : b.deep ≤ a.deep + 2) : (rBal a b).bal ∧ max a.deep b.deep ≤ (rBal a b).deep ∧ (rBal a b).deep ≤ max a.deep b.deep + 1 := by
  unfold rBal
  split
  · rename_i c
    cases a with
    | leaf s => simp only [Rp.deep] at c; omega
    | node x y =>
      obtain ⟨hx, hy, g1, g2⟩ := ha
      simp only [Rp.deep] at c h1 h2
      simp only
      split
      · rename_i q
        refine ⟨⟨hx, ⟨hy, hb, by omega, by omega⟩, ?_, ?_⟩, ?_, ?_⟩ <;> simp only [Rp.deep] <;> omega
      · rename_i q
        cases y with
        | leaf s => simp only [Rp.deep] at q; have := x.deep_pos; omega
        | node p q' =>
          obtain ⟨hp, hq, k1, k2⟩ := hy
          simp only [Rp.deep] at q g1 g2 c h1 h2
          refine ⟨⟨⟨hx, hp, by omega, by omega⟩, ⟨hq, hb, by omega, by omega⟩, ?_, ?_⟩, ?_, ?_⟩ <;> simp only [Rp.deep] <;> omega
  · split
    · rename_i c0 c
      cases b with
      | leaf s => simp only [Rp.deep] at c; omega
      | node x y =>
        obtain ⟨hx, hy, g1, g2⟩ := hb
        simp only [Rp.deep] at c h1 h2
        simp only
        split
        · rename_i q
          refine ⟨⟨⟨ha, hx, by omega, by omega⟩, hy, ?_, ?_⟩, ?_, ?_⟩ <;> simp only [Rp.deep] <;> omega
        · rename_i q
          cases x with
          | leaf s => simp only [Rp.deep] at q; have := y.deep_pos; omega
          | node p q' =>
            obtain ⟨hp, hq, k1, k2⟩ := hx
            simp only [Rp.deep] at q g1 g2 c h1 h2
            refine ⟨⟨⟨ha, hp, by omega, by omega⟩, ⟨hq, hy, by omega, by omega⟩, ?_, ?_⟩, ?_, ?_⟩ <;> simp only [Rp.deep] <;> omega
    · refine ⟨⟨ha, hb, by omega, by omega⟩, ?_, ?_⟩ <;> simp only [Rp.deep] <;> omega
theorem rJoin_ok : ∀ (n : Nat) (a b : Rp), a.deep + b.deep ≤ n → a.bal → b.bal → (rJoin a b).bal ∧ max a.deep b.deep ≤ (rJoin a b).deep ∧ (rJoin a b).deep ≤ max a.deep b.deep + 1
  | 0, a, b, h, _, _ => by have := a.deep_pos; omega
  | n + 1, a, b, h, ha, hb => by
    cases ht : rTiny a b with
    | some s =>
      rw [rJoin_tiny ht]
      cases a <;> cases b <;> simp only [rTiny] at ht <;> first | (cases ht; done) | skip
      split at ht <;> cases ht
      rename_i s t _
      exact ⟨by show s ++ t ≠ []; intro e; exact ha (List.append_eq_nil_iff.1 e).1, by simp [Rp.deep], by simp [Rp.deep]⟩
    | none =>
      by_cases h1 : b.deep + 1 < a.deep
      · cases a with
        | leaf s => simp only [Rp.deep] at h1; omega
        | node x y =>
          obtain ⟨hx, hy, g1, g2⟩ := ha
          obtain ⟨k1, k2, k3⟩ := rJoin_ok n y b (by simp only [Rp.deep] at h; omega) hy hb
          rw [rJoin_left h1]
          simp only [Rp.deep] at h1
          obtain ⟨m1, m2, m3⟩ := rBal_ok hx k1 (by omega) (by omega)
          have low : max x.deep y.deep + 1 ≤ (rBal x (rJoin y b)).deep := by
            by_cases q : max x.deep y.deep + 1 ≤ max x.deep (rJoin y b).deep
            · omega
            · have e : rBal x (rJoin y b) = .node x (rJoin y b) := by unfold rBal; rw [if_neg (by omega), if_neg (by omega)]
              rw [e]; simp only [Rp.deep]; omega
          refine ⟨m1, ?_, ?_⟩
          · show max (max x.deep y.deep + 1) b.deep ≤ _; omega
          · show _ ≤ max (max x.deep y.deep + 1) b.deep + 1; omega
      · by_cases h2 : a.deep + 1 < b.deep
        · cases b with
          | leaf s => simp only [Rp.deep] at h2; omega
          | node x y =>
            obtain ⟨hx, hy, g1, g2⟩ := hb
            obtain ⟨k1, k2, k3⟩ := rJoin_ok n a x (by simp only [Rp.deep] at h; omega) ha hx
            rw [rJoin_right h2]
            simp only [Rp.deep] at h2
            obtain ⟨m1, m2, m3⟩ := rBal_ok k1 hy (by omega) (by omega)
            have low : max x.deep y.deep + 1 ≤ (rBal (rJoin a x) y).deep := by
              by_cases q : max x.deep y.deep + 1 ≤ max (rJoin a x).deep y.deep
              · omega
              · have e : rBal (rJoin a x) y = .node (rJoin a x) y := by unfold rBal; rw [if_neg (by omega), if_neg (by omega)]
                rw [e]; simp only [Rp.deep]; omega
            refine ⟨m1, ?_, ?_⟩
            · show max a.deep (max x.deep y.deep + 1) ≤ _; omega
            · show _ ≤ max a.deep (max x.deep y.deep + 1) + 1; omega
        · rw [rJoin_mid ht h1 h2]
          refine ⟨⟨ha, hb, by omega, by omega⟩, ?_, ?_⟩ <;> simp only [Rp.deep] <;> omega
end Go.Fu
