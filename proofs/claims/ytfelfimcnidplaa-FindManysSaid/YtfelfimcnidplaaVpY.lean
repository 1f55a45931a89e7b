/-
  The order of a text's ends: plain laws on lexicographic order, ranks by a part, common beginnings.
-/
import Derived.Test.YtfelfimcnidplaaVpA
set_option linter.unusedVariables false
set_option linter.unusedSimpArgs false
namespace Go.Fu
open Go.Vc
abbrev Bts := List UInt8

/-! ### Lexicographic order -/
def lexLt : Bts → Bts → Prop
  | _, [] => False
  | [], _ :: _ => True
  | a :: s, b :: t => a < b ∨ (a = b ∧ lexLt s t)
theorem lex_nil {s : Bts} : ¬ lexLt s [] := by cases s <;> exact id
theorem u8_irrefl (a : UInt8) : ¬ a < a := by have := UInt8.lt_irrefl a; exact this
theorem lex_irrefl : ∀ (s : Bts), ¬ lexLt s s
  | [] => lex_nil
  | a :: s => by
    rintro (h | ⟨_, h⟩)
    · exact u8_irrefl a h
    · exact lex_irrefl s h
theorem lex_trans : ∀ {s t u : Bts}, lexLt s t → lexLt t u → lexLt s u
  | _, [], _, h, _ => absurd h lex_nil
  | _, _ :: _, [], _, h => absurd h lex_nil
  | [], _ :: _, _ :: _, _, _ => trivial
  | a :: s, b :: t, c :: u, h1, h2 => by
    rcases h1 with h1 | ⟨rfl, h1⟩ <;> rcases h2 with h2 | ⟨rfl, h2⟩
    · exact .inl (UInt8.lt_trans h1 h2)
    · exact .inl h1
    · exact .inl h2
    · exact .inr ⟨rfl, lex_trans h1 h2⟩
theorem lex_total : ∀ (s t : Bts), lexLt s t ∨ s = t ∨ lexLt t s
  | [], [] => .inr (.inl rfl)
  | [], _ :: _ => .inl trivial
  | _ :: _, [] => .inr (.inr trivial)
  | a :: s, b :: t => by
    by_cases h : a < b
    · exact .inl (.inl h)
    by_cases h' : b < a
    · exact .inr (.inr (.inl h'))
    have e : a = b := by
      have h1 : ¬ a.toNat < b.toNat := h
      have h2 : ¬ b.toNat < a.toNat := h'
      exact UInt8.toNat_inj.1 (by omega)
    subst e
    rcases lex_total s t with q | q | q
    · exact .inl (.inr ⟨rfl, q⟩)
    · exact .inr (.inl (by rw [q]))
    · exact .inr (.inr (.inr ⟨rfl, q⟩))
theorem lex_asymm {s t : Bts} (h : lexLt s t) : ¬ lexLt t s := fun h' => lex_irrefl s (lex_trans h h')
theorem lex_ntrans {s t u : Bts} (h1 : ¬ lexLt s t) (h2 : ¬ lexLt t u) : ¬ lexLt s u := fun h => by
  rcases lex_total s t with q | q | q
  · exact h1 q
  · subst q; exact h2 h
  · rcases lex_total t u with r | r | r
    · exact h2 r
    · subst r; exact h1 h
    · exact lex_asymm h (lex_trans r q)
/-- A longer part: the shorter one first, then what stands behind it. -/
theorem lex_part : ∀ (w v : Nat) (s t : Bts), lexLt (s.take (w + v)) (t.take (w + v)) ↔ lexLt (s.take w) (t.take w) ∨ (s.take w = t.take w ∧ lexLt ((s.drop w).take v) ((t.drop w).take v))
  | 0, v, s, t => by
    simp only [Nat.zero_add, List.take_zero, List.drop_zero, true_and]
    exact ⟨.inr, fun h => h.resolve_left (lex_irrefl [])⟩
  | w + 1, v, [], [] => by simp only [List.take_nil, List.drop_nil]; exact ⟨fun h => absurd h lex_nil, fun h => h.elim id fun h => h.2⟩
  | w + 1, v, [], b :: t => by
    rw [show w + 1 + v = (w + v) + 1 by omega]
    simp only [List.take_nil, List.take_succ_cons]
    exact ⟨fun _ => .inl trivial, fun _ => trivial⟩
  | w + 1, v, a :: s, [] => by
    simp only [List.take_nil, List.drop_nil]
    exact ⟨fun h => absurd h lex_nil, fun h => h.elim (fun h => absurd h lex_nil) fun h => absurd h.2 lex_nil⟩
  | w + 1, v, a :: s, b :: t => by
    rw [show w + 1 + v = (w + v) + 1 by omega]
    simp only [List.take_succ_cons, List.drop_succ_cons, lexLt, List.cons.injEq]
    rw [lex_part w v s t]
    constructor
    · rintro (h | ⟨h1, h2 | ⟨h2, h3⟩⟩)
      · exact .inl (.inl h)
      · exact .inl (.inr ⟨h1, h2⟩)
      · exact .inr ⟨⟨h1, h2⟩, h3⟩
    · rintro ((h | ⟨h1, h2⟩) | ⟨⟨h1, h2⟩, h3⟩)
      · exact .inl h
      · exact .inr ⟨h1, .inl h2⟩
      · exact .inr ⟨h1, .inr ⟨h2, h3⟩⟩
theorem lex_of_take {w : Nat} : ∀ {s t : Bts}, lexLt (s.take w) (t.take w) → lexLt s t := fun {s t} h => by
  have := (lex_part w (s.length + t.length) s t).2 (.inl h)
  rwa [List.take_of_length_le (by omega), List.take_of_length_le (by omega)] at this
theorem take_split (w v : Nat) (s t : Bts) : s.take (w + v) = t.take (w + v) ↔ s.take w = t.take w ∧ (s.drop w).take v = (t.drop w).take v := by
  constructor
  · intro h
    refine ⟨?_, ?_⟩
    · have := congrArg (List.take w) h
      rwa [List.take_take, List.take_take, Nat.min_eq_left (by omega)] at this
    · have := congrArg (List.drop w) h
      rwa [List.drop_take, List.drop_take, show w + v - w = v by omega] at this
  · rintro ⟨h1, h2⟩
    rw [List.take_add, List.take_add, h1, h2]
theorem lex_eq {s t : Bts} (h1 : ¬ lexLt s t) (h2 : ¬ lexLt t s) : s = t := by
  rcases lex_total s t with q | q | q
  · exact absurd q h1
  · exact q
  · exact absurd q h2

/-! ### The ends of a text -/
abbrev suf (s : Bts) (i : Int) : Bts := s.drop i.toNat
abbrev sufW (s : Bts) (w i : Int) : Bts := (suf s i).take w.toNat
def inT (s : Bts) (i : Int) : Prop := 0 ≤ i ∧ i < s.length
theorem suf_len {s : Bts} {i : Int} (h : inT s i) : ((suf s i).length : Int) = s.length - i := by
  obtain ⟨h0, h1⟩ := h
  simp only [List.length_drop]; omega
theorem suf_inj {s : Bts} {i j : Int} (hi : inT s i) (hj : inT s j) (h : suf s i = suf s j) : i = j := by
  have h1 := suf_len hi
  have h2 := suf_len hj
  rw [h] at h1
  omega
theorem sufW_all {s : Bts} {w i : Int} (h : inT s i) (hw : (s.length : Int) ≤ w + i) : sufW s w i = suf s i := by
  have := suf_len h
  exact List.take_of_length_le (by omega)
/-- All the numbers below n. -/
def upTo (n : Nat) : List Int := (List.range n).map fun k : Nat => (k : Int)
theorem upTo_len (n : Nat) : (upTo n).length = n := by simp [upTo]
theorem upTo_mem {n : Nat} {i : Int} : i ∈ upTo n ↔ 0 ≤ i ∧ i < n := by
  simp only [upTo, List.mem_map, List.mem_range]
  constructor
  · rintro ⟨k, hk, rfl⟩; omega
  · rintro ⟨h0, h1⟩; exact ⟨i.toNat, by omega, by omega⟩
theorem upTo_gt {n : Nat} {i : Int} (h0 : 0 ≤ i) (h1 : i < n) : gt (upTo n) i = i := by
  rw [gt_in h0 (by rw [upTo_len]; exact h1)]
  simp [upTo]; omega
theorem upTo_nodup (n : Nat) : (upTo n).Nodup := by
  unfold upTo
  rw [List.nodup_iff_pairwise_ne, List.pairwise_map]
  exact List.nodup_range.imp fun h e => h (by omega)
theorem upTo_succ (n : Nat) : upTo (n + 1) = upTo n ++ [(n : Int)] := by simp [upTo, List.range_succ]
/-- The ends of a text in their order. -/
def isSa (s : Bts) (l : List Int) : Prop := l.Perm (upTo s.length) ∧ l.Pairwise fun i j => lexLt (suf s i) (suf s j)
noncomputable def saOf (s : Bts) : List Int := Classical.epsilon (isSa s)
theorem sa_in {s : Bts} {l : List Int} (h : l.Perm (upTo s.length)) {i : Int} (hi : i ∈ l) : inT s i := upTo_mem.1 (h.mem_iff.1 hi)
theorem sa_uniq {s : Bts} {l m : List Int} (h1 : isSa s l) (h2 : isSa s m) : l = m := by
  refine List.Perm.eq_of_pairwise (le := fun i j => lexLt (suf s i) (suf s j)) ?_ h1.2 h2.2 (h1.1.trans h2.1.symm)
  intro a b ha hb h3 h4
  exact absurd h4 (lex_asymm h3)
theorem sa_eq {s : Bts} {l : List Int} (h : isSa s l) : saOf s = l := sa_uniq (Classical.epsilon_spec (p := isSa s) ⟨l, h⟩) h

/-! ### Ranks by a part -/
structure Ranks (s : Bts) (w : Int) (rk : List Int) : Prop where
  len : rk.length = s.length
  nn : ∀ i, inT s i → 0 ≤ gt rk i ∧ gt rk i ≤ 1000000
  lt : ∀ i j, inT s i → inT s j → (gt rk i < gt rk j ↔ lexLt (sufW s w i) (sufW s w j))
theorem Ranks.eq {s : Bts} {w : Int} {rk : List Int} (h : Ranks s w rk) {i j : Int} (hi : inT s i) (hj : inT s j) : gt rk i = gt rk j ↔ sufW s w i = sufW s w j := by
  have h1 := h.lt i j hi hj
  have h2 := h.lt j i hj hi
  constructor
  · intro e
    exact lex_eq (fun q => by have := h1.2 q; omega) (fun q => by have := h2.2 q; omega)
  · intro e
    rw [e] at h1 h2
    have a1 : ¬ gt rk i < gt rk j := fun q => lex_irrefl _ (h1.1 q)
    have a2 : ¬ gt rk j < gt rk i := fun q => lex_irrefl _ (h2.1 q)
    omega
/-- The second rank: that of what stands w behind. -/
def sec (s : Bts) (w : Int) (rk : List Int) (i : Int) : Int := if i + w < s.length then gt rk (i + w) else -1
theorem suf_add {s : Bts} {i w : Int} (h0 : 0 ≤ i) (hw : 0 ≤ w) : (suf s i).drop w.toNat = suf s (i + w) := by
  rw [List.drop_drop]; congr 1; omega
theorem suf_out {s : Bts} {i : Int} (h : (s.length : Int) ≤ i) : suf s i = [] := List.drop_eq_nil_of_le (by omega)
theorem sec_lt {s : Bts} {w : Int} {rk : List Int} (h : Ranks s w rk) (hw : 1 ≤ w) {i j : Int} (hi : inT s i) (hj : inT s j) :
    sec s w rk i < sec s w rk j ↔ lexLt (((suf s i).drop w.toNat).take w.toNat) (((suf s j).drop w.toNat).take w.toNat) := by
  obtain ⟨i0, i1⟩ := hi
  obtain ⟨j0, j1⟩ := hj
  rw [suf_add i0 (by omega), suf_add j0 (by omega)]
  unfold sec
  by_cases ci : i + w < s.length <;> by_cases cj : j + w < s.length
  · rw [if_pos ci, if_pos cj]
    exact h.lt _ _ ⟨by omega, ci⟩ ⟨by omega, cj⟩
  · rw [if_pos ci, if_neg cj, suf_out (i := j + w) (by omega)]
    have := (h.nn (i + w) ⟨by omega, ci⟩).1
    constructor
    · intro q; omega
    · intro q; simp at q; exact absurd q lex_nil
  · rw [if_neg ci, if_pos cj, suf_out (i := i + w) (by omega)]
    have := (h.nn (j + w) ⟨by omega, cj⟩).1
    have l := suf_len (s := s) (i := j + w) ⟨by omega, cj⟩
    constructor
    · intro _
      cases hq : suf s (j + w) with
      | nil => rw [hq] at l; simp at l; omega
      | cons a t =>
        have : w.toNat = (w.toNat - 1) + 1 := by omega
        rw [this]
        simp [lexLt]
    · intro _; omega
  · rw [if_neg ci, if_neg cj, suf_out (i := i + w) (by omega), suf_out (i := j + w) (by omega)]
    constructor
    · intro q; omega
    · intro q; simp at q; exact absurd q lex_nil
theorem sec_eq {s : Bts} {w : Int} {rk : List Int} (h : Ranks s w rk) (hw : 1 ≤ w) {i j : Int} (hi : inT s i) (hj : inT s j) :
    sec s w rk i = sec s w rk j ↔ ((suf s i).drop w.toNat).take w.toNat = ((suf s j).drop w.toNat).take w.toNat := by
  have h1 := sec_lt h hw hi hj
  have h2 := sec_lt h hw hj hi
  constructor
  · intro e
    exact lex_eq (fun q => by have := h1.2 q; omega) (fun q => by have := h2.2 q; omega)
  · intro e
    rw [e] at h1 h2
    have a1 : ¬ sec s w rk i < sec s w rk j := fun q => lex_irrefl _ (h1.1 q)
    have a2 : ¬ sec s w rk j < sec s w rk i := fun q => lex_irrefl _ (h2.1 q)
    omega
def cmpI (x y : Int) : Int := if x < y then -1 else if y < x then 1 else 0
def orI (x y : Int) : Int := if x ≠ 0 then x else y
/-- The comparison of both ranks. -/
def byI (s : Bts) (w : Int) (rk : List Int) (a b : Int) : Int := orI (cmpI (gt rk a) (gt rk b)) (cmpI (sec s w rk a) (sec s w rk b))
theorem cmpI_neg {x y : Int} : cmpI x y < 0 ↔ x < y := by
  unfold cmpI; split
  · simp_all
  · split <;> omega
theorem cmpI_zero {x y : Int} : cmpI x y = 0 ↔ x = y := by
  unfold cmpI; split
  · omega
  · split <;> omega
theorem orI_neg {x y : Int} : orI x y < 0 ↔ x < 0 ∨ (x = 0 ∧ y < 0) := by unfold orI; split <;> omega
theorem orI_zero {x y : Int} : orI x y = 0 ↔ x = 0 ∧ y = 0 := by unfold orI; split <;> omega
theorem two_w {w : Int} (h : 0 ≤ w) : (w * 2).toNat = w.toNat + w.toNat := by omega
theorem byI_neg {s : Bts} {w : Int} {rk : List Int} (h : Ranks s w rk) (hw : 1 ≤ w) {a b : Int} (ha : inT s a) (hb : inT s b) : byI s w rk a b < 0 ↔ lexLt (sufW s (w * 2) a) (sufW s (w * 2) b) := by
  unfold byI
  rw [orI_neg, cmpI_neg, cmpI_zero, cmpI_neg, h.lt a b ha hb, h.eq ha hb, sec_lt h hw ha hb]
  unfold sufW
  rw [two_w (by omega), lex_part]
theorem byI_zero {s : Bts} {w : Int} {rk : List Int} (h : Ranks s w rk) (hw : 1 ≤ w) {a b : Int} (ha : inT s a) (hb : inT s b) : byI s w rk a b = 0 ↔ sufW s (w * 2) a = sufW s (w * 2) b := by
  unfold byI
  rw [orI_zero, cmpI_zero, cmpI_zero, h.eq ha hb, sec_eq h hw ha hb]
  unfold sufW
  rw [two_w (by omega), take_split]
end Go.Fu
