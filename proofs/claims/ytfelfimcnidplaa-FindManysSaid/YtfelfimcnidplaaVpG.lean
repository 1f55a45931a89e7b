/-
  Places of texts, and where a text stands in another one.
-/
import Derived.Test.YtfelfimcnidplaaVpD
import Derived.Test.YtfelfimcnidplaaVpE
set_option linter.unusedVariables false
set_option linter.unusedSimpArgs false
namespace Go.Fu
open Go.Vc
noncomputable section
/-! places -/
def posStep (p : Int × Int × Int) (c : UInt8) : Int × Int × Int := if c = 10 then (p.1 + 1, p.2.1 + 1, 0) else (p.1 + 1, p.2.1, p.2.2 + 1)
def posOf (s : Bytes) : Int × Int × Int := s.foldl posStep (0, 0, 0)
def pos_Of_ct : Ct := ⟨tys1 .str, [.val tPos], fun s => fitS s, fun s => posOf s⟩
def ref_PosOf_ct : Ct := pos_Of_ct
theorem posOf_snoc (s : Bytes) (c : UInt8) : posOf (s ++ [c]) = posStep (posOf s) c := by simp [posOf]
theorem posOf_succ {s : Bytes} {i : Int} (h0 : 0 ≤ i) (h1 : i < s.length) : posOf (s.take (i + 1).toNat) = posStep (posOf (s.take i.toNat)) (gt s i) := by
  rw [take_gt h0 h1, posOf_snoc]
theorem posOf_bd (s : Bytes) : (posOf s).1 = s.length ∧ 0 ≤ (posOf s).2.1 ∧ 0 ≤ (posOf s).2.2 ∧ (posOf s).2.1 + (posOf s).2.2 ≤ s.length ∧ ((posOf s).2.1 = 0 → (posOf s).2.2 = s.length) := by
  induction s using snoc_rec with
  | h0 => simp [posOf]
  | h1 s c ih =>
    rw [posOf_snoc]
    simp only [posStep, List.length_append, List.length_cons, List.length_nil]
    split <;> simp only <;> omega
/-- Behind a place: so many line feeds more, or so many columns more. -/
theorem posOf_from {s : Bytes} {i : Int} (h0 : 0 ≤ i) : ∀ (n : Nat), i + n ≤ s.length → (∀ j, i ≤ j → j < i + n → gt s j ≠ 10) → posOf (s.take (i + n).toNat) = ((posOf (s.take i.toNat)).1 + n, (posOf (s.take i.toNat)).2.1, (posOf (s.take i.toNat)).2.2 + n)
  | 0, h1, h2 => by simp
  | n + 1, h1, h2 => by
    have ih := posOf_from h0 n (by omega) fun j a b => h2 j a (by omega)
    rw [show i + ((n + 1 : Nat) : Int) = (i + n) + 1 by omega, posOf_succ (by omega) (by omega), ih]
    simp only [posStep]
    rw [if_neg (h2 _ (by omega) (by omega))]
    refine Prod.ext ?_ (Prod.ext ?_ ?_) <;> simp only <;> omega
theorem posOf_mono {s : Bytes} {i j : Int} (h0 : 0 ≤ i) (h1 : i ≤ j) (h2 : j ≤ s.length) : (posOf (s.take i.toNat)).2.1 ≤ (posOf (s.take j.toNat)).2.1 := by
  have : ∀ n : Nat, i + n ≤ s.length → (posOf (s.take i.toNat)).2.1 ≤ (posOf (s.take (i + n).toNat)).2.1 := by
    intro n
    induction n with
    | zero => intro _; simp
    | succ n ih =>
      intro h
      have := ih (by omega)
      rw [show i + ((n + 1 : Nat) : Int) = (i + n) + 1 by omega, posOf_succ (by omega) (by omega)]
      simp only [posStep]
      split <;> simp only <;> omega
  have := this (j - i).toNat (by omega)
  rwa [show i + ((j - i).toNat : Int) = j by omega] at this
def atPos (s : Bytes) (line col at_ : Int) : Prop := 0 ≤ at_ ∧ at_ ≤ s.length ∧ (posOf (s.take at_.toNat)).2.1 = line ∧ (posOf (s.take at_.toNat)).2.2 = col
/-- No two places have the same line and column. -/
theorem atPos_lt {s : Bytes} {line col i j : Int} (h : atPos s line col i) (h' : atPos s line col j) (hl : i < j) : False := by
  obtain ⟨a0, a1, a2, a3⟩ := h
  obtain ⟨b0, b1, b2, b3⟩ := h'
  have nl : ∀ k, i ≤ k → k < j → gt s k ≠ 10 := fun k k0 k1 e => by
    have m1 := posOf_mono (s := s) a0 k0 (by omega)
    have m2 := posOf_mono (s := s) (i := k + 1) (j := j) (by omega) (by omega) b1
    rw [posOf_succ (by omega) (by omega)] at m2
    simp only [posStep, if_pos e] at m2
    omega
  have := posOf_from a0 (j - i).toNat (by omega) fun k k0 k1 => nl k k0 (by omega)
  rw [show i + ((j - i).toNat : Int) = j by omega] at this
  have := congrArg (fun p => p.2.2) this
  simp only at this
  omega
theorem atPos_uniq {s : Bytes} {line col i j : Int} (h : atPos s line col i) (h' : atPos s line col j) : i = j := by
  rcases Int.lt_trichotomy i j with c | c | c
  · exact (atPos_lt h h' c).elim
  · exact c
  · exact (atPos_lt h' h c).elim
def posFind (s : Bytes) (line col : Int) : Int × Int :=
  open Classical in
  if line < 0 ∨ col < 0 ∨ (posOf s).2.1 < line then (0, 2)
  else if h : ∃ at_, atPos s line col at_ then (Classical.choose h, 0) else (0, 7)
def pos_Find_ct : Ct := ⟨tys3 .str tI tI, [.val tI, .val tI], fun x => fitS x.1 ∧ inI64 x.2.1 ∧ inI64 x.2.2, fun x => posFind x.1 x.2.1 x.2.2⟩
def ref_PosFind_ct : Ct := pos_Find_ct
theorem posFind_some {s : Bytes} {line col at_ : Int} (h0 : 0 ≤ line) (h1 : 0 ≤ col) (h2 : line ≤ (posOf s).2.1) (h : atPos s line col at_) : posFind s line col = (at_, 0) := by
  simp only [posFind]
  rw [if_neg (by omega), dif_pos ⟨_, h⟩]
  exact Prod.ext (atPos_uniq (Classical.choose_spec (p := atPos s line col) ⟨_, h⟩) h) rfl
theorem posFind_none {s : Bytes} {line col : Int} (h0 : 0 ≤ line) (h1 : 0 ≤ col) (h2 : line ≤ (posOf s).2.1) (h : ∀ at_, ¬ atPos s line col at_) : posFind s line col = (0, 7) := by
  simp only [posFind]
  rw [if_neg (by omega), dif_neg (fun ⟨a, q⟩ => h a q)]
theorem posFind_out {s : Bytes} {line col : Int} (h : line < 0 ∨ col < 0 ∨ (posOf s).2.1 < line) : posFind s line col = (0, 2) := by
  simp only [posFind]
  rw [if_pos h]

/-! the first and the last place of a byte -/
theorem indexByte_spec (s : Bytes) (b : UInt8) : (Lib.indexByte s b = -1 ∧ ∀ j : Int, 0 ≤ j → j < s.length → gt s j ≠ b) ∨ (0 ≤ Lib.indexByte s b ∧ Lib.indexByte s b < s.length ∧ gt s (Lib.indexByte s b) = b ∧ ∀ j : Int, 0 ≤ j → j < Lib.indexByte s b → gt s j ≠ b) := by
  induction s with
  | nil => left; exact ⟨rfl, fun j h0 h1 => by simp at h1; omega⟩
  | cons c s ih =>
    simp only [Lib.indexByte, beq_iff_eq]
    by_cases e : c = b
    · right; rw [if_pos e]; exact ⟨by omega, by simp, by rw [gt_cons_zero]; exact e, fun j h0 h1 => by omega⟩
    · rw [if_neg e]
      rcases ih with ⟨h1, h2⟩ | ⟨h1, h2, h3, h4⟩
      · left
        rw [if_pos h1]
        refine ⟨rfl, fun j j0 j1 => ?_⟩
        by_cases z : j = 0
        · rw [z, gt_cons_zero]; exact e
        · rw [gt_cons_pos (by omega)]; exact h2 _ (by omega) (by simp at j1; omega)
      · right
        rw [if_neg (by omega)]
        refine ⟨by omega, by simp; omega, ?_, fun j j0 j1 => ?_⟩
        · rw [gt_cons_pos (by omega), show Lib.indexByte s b + 1 - 1 = Lib.indexByte s b by omega]; exact h3
        · by_cases z : j = 0
          · rw [z, gt_cons_zero]; exact e
          · rw [gt_cons_pos (by omega)]; exact h4 _ (by omega) (by omega)
/-! the places where something holds -/
def pls (P : Int → Prop) (n : Int) : List Int := ((List.range n.toNat).map fun k : Nat => (k : Int)).filter fun i => bo (P i)
theorem pls_zero {P : Int → Prop} {n : Int} (h : n ≤ 0) : pls P n = [] := by
  have : n.toNat = 0 := by omega
  simp [pls, this]
theorem pls_succ {P : Int → Prop} {n : Int} (h : 0 ≤ n) : pls P (n + 1) = open Classical in if P n then pls P n ++ [n] else pls P n := by
  have e : (n + 1).toNat = n.toNat + 1 := by omega
  have e2 : ((n.toNat : Nat) : Int) = n := by omega
  simp only [pls, e, List.range_succ, List.map_append, List.filter_append, List.map_cons, List.map_nil, List.filter_cons, List.filter_nil, e2]
  by_cases hp : P n
  · rw [if_pos hp]; simp [bo, hp]
  · rw [if_neg hp]; simp [bo, hp]
theorem pls_pos {P : Int → Prop} {n : Int} (h : 0 ≤ n) (hp : P n) : pls P (n + 1) = pls P n ++ [n] := by rw [pls_succ h, if_pos hp]
theorem pls_neg {P : Int → Prop} {n : Int} (h : 0 ≤ n) (hp : ¬ P n) : pls P (n + 1) = pls P n := by rw [pls_succ h, if_neg hp]
theorem pls_len {P : Int → Prop} (n : Int) : (pls P n).length ≤ n.toNat := by
  refine Nat.le_trans (List.length_filter_le _ _) ?_
  simp
theorem pls_more {P : Int → Prop} {n m : Int} (h0 : 0 ≤ n) (h : n ≤ m) (hp : ∀ i, n ≤ i → i < m → ¬ P i) : pls P m = pls P n := by
  have : ∀ k : Nat, n + k ≤ m → pls P (n + k) = pls P n := by
    intro k
    induction k with
    | zero => intro _; simp
    | succ k ih =>
      intro hk
      rw [show n + ((k + 1 : Nat) : Int) = (n + k) + 1 by omega, pls_neg (by omega) (hp _ (by omega) (by omega)), ih (by omega)]
  have := this (m - n).toNat (by omega)
  rwa [show n + ((m - n).toNat : Int) = m by omega] at this
theorem pls_congr {P Q : Int → Prop} {n : Int} (h : ∀ i, 0 ≤ i → i < n → (P i ↔ Q i)) : pls P n = pls Q n := by
  simp only [pls]
  apply List.filter_congr
  intro i hi
  simp only [List.mem_map, List.mem_range] at hi
  obtain ⟨k, hk, rfl⟩ := hi
  exact bo_congr (h k (by omega) (by omega))

/-! finding -/
def stands (text find : Bytes) (at_ : Int) : Prop := 0 ≤ at_ ∧ at_ + find.length ≤ text.length ∧ ∀ j : Int, 0 ≤ j → j < find.length → gt find j = gt text (at_ + j)
theorem stands_part {text find : Bytes} {at_ : Int} (h0 : 0 ≤ at_) (h1 : at_ + find.length ≤ text.length) : (text.take (at_ + find.length).toNat).drop at_.toNat = find ↔ stands text find at_ := by
  constructor
  · intro h
    refine ⟨h0, h1, fun j j0 j1 => ?_⟩
    have := congrArg (fun l : Bytes => gt l j) h
    rw [gt_drop j0, gt_take (by omega) (by omega)] at this
    rw [← this]; congr 1; omega
  · rintro ⟨_, _, h⟩
    refine ext_gt (by simp; omega) fun j j0 j1 => ?_
    simp at j1
    rw [gt_drop j0, gt_take (by omega) (by omega), h j j0 (by omega)]
    congr 1; omega
def findFault (text find : Bytes) : Int := if 600 < text.length ∨ 20 < find.length then 1 else if find = [] then 4 else 0
def find_fault_ct : Ct := ⟨tys2 .str .str, [.val tI], fun _ => True, fun x => findFault x.1 x.2⟩
def ref_findFault_ct : Ct := find_fault_ct
def findAt (text find : Bytes) : List Int := pls (stands text find) text.length
def findAll (text find : Bytes) : List Int × Int := if findFault text find = 0 then (findAt text find, 0) else ([], findFault text find)
def find_In_ct : Ct := ⟨tys2 .str .str, [.own tI], fun x => x.1.length ≤ 100000 ∧ x.2.length ≤ 100000 ∧ x.2 ≠ [], fun x => findAt x.1 x.2⟩
def find_All_ct : Ct := ⟨tys2 .str .str, [.own tI, .val tI], fun _ => True, fun x => findAll x.1 x.2⟩
def ref_FindAll_ct : Ct := find_All_ct
abbrev standPre (i : Int) : Prop := -1000000 ≤ i ∧ i ≤ 140737488351232
def ref_standsAt_ct : Ct := ⟨tys3 .str .str tI, [.val .bool], fun x => fitS x.1 ∧ fitS x.2.1 ∧ standPre x.2.2, fun x => bo (stands x.1 x.2.1 x.2.2)⟩
/-- The first k bytes of find are the last ones of the first i of text. -/
def isPre (text find : Bytes) (i k : Int) : Prop := 0 ≤ k ∧ k ≤ i ∧ k ≤ find.length ∧ ∀ j, 0 ≤ j → j < k → gt find j = gt text (i - k + j)
theorem isPre_zero {text find : Bytes} {i : Int} (h : 0 ≤ i) : isPre text find i 0 := ⟨by omega, h, by omega, fun j a b => by omega⟩
theorem isPre_pred {text find : Bytes} {i k : Int} (h : isPre text find (i + 1) k) (hk : 1 ≤ k) : isPre text find i (k - 1) ∧ gt find (k - 1) = gt text i := by
  obtain ⟨h0, h1, h2, h3⟩ := h
  refine ⟨⟨by omega, by omega, by omega, fun j a b => ?_⟩, ?_⟩
  · rw [h3 j a (by omega)]; congr 1; omega
  · rw [h3 (k - 1) (by omega) (by omega)]; congr 1; omega
theorem isPre_succ {text find : Bytes} {i k : Int} (h : isPre text find i k) (hk : k < find.length) (e : gt find k = gt text i) : isPre text find (i + 1) (k + 1) := by
  obtain ⟨h0, h1, h2, h3⟩ := h
  refine ⟨by omega, by omega, by omega, fun j a b => ?_⟩
  by_cases q : j = k
  · rw [q, e]; congr 1; omega
  · rw [h3 j a (by omega)]; congr 1; omega
theorem isPre_bord {text find : Bytes} {i m k : Int} (h : isPre text find i m) (h' : isBord find m k) : isPre text find i k := by
  obtain ⟨h0, h1, h2, h3⟩ := h
  obtain ⟨g0, g1, g2⟩ := h'
  refine ⟨by omega, by omega, by omega, fun j a b => ?_⟩
  rw [g2 j a b, h3 (m - k + j) (by omega) (by omega)]; congr 1; omega
theorem isPre_down {text find : Bytes} {i m k : Int} (h : isPre text find i m) (h' : isPre text find i k) (hk : k < m) : isBord find m k := by
  obtain ⟨h0, h1, h2, h3⟩ := h
  obtain ⟨g0, g1, g2, g3⟩ := h'
  refine ⟨by omega, by omega, fun j a b => ?_⟩
  rw [g3 j a b, h3 (m - k + j) (by omega) (by omega)]; congr 1; omega
theorem isPre_full {text find : Bytes} {i : Int} (hi : i ≤ text.length) : isPre text find i find.length ↔ stands text find (i - find.length) := by
  constructor
  · rintro ⟨h0, h1, h2, h3⟩
    exact ⟨by omega, by omega, h3⟩
  · rintro ⟨h0, h1, h2⟩
    exact ⟨by omega, by omega, by omega, h2⟩
end
end Go.Fu
