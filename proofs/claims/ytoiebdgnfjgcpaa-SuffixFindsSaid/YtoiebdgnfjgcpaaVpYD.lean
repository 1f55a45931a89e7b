/-
  The order of a text's ends by doubling: ranks out of an ordered list, plain laws.
-/
import Derived.Test.YtoiebdgnfjgcpaaVpYC
set_option linter.unusedVariables false
set_option linter.unusedSimpArgs false
namespace Go.Fu
open Go.Vc

/-- What the round makes: the ends in order by their first v bytes, and ranks that count where these part. -/
structure Rnd (s : Bts) (v : Int) (L nx : List Int) : Prop where
  perm : L.Perm (upTo s.length)
  ord : L.Pairwise fun x y => ¬ lexLt (sufW s v y) (sufW s v x)
  len : nx.length = s.length
  r0 : 0 < L.length → gt nx (gt L 0) = 0
  eq : ∀ b : Int, 1 ≤ b → b < L.length → sufW s v (gt L (b - 1)) = sufW s v (gt L b) → gt nx (gt L b) = gt nx (gt L (b - 1))
  ne : ∀ b : Int, 1 ≤ b → b < L.length → sufW s v (gt L (b - 1)) ≠ sufW s v (gt L b) → gt nx (gt L b) = gt nx (gt L (b - 1)) + 1
section
variable {s : Bts} {v : Int} {L nx : List Int}
theorem Rnd.llen (h : Rnd s v L nx) : L.length = s.length := by rw [h.perm.length_eq, upTo_len]
theorem Rnd.le (h : Rnd s v L nx) {a b : Int} (h0 : 0 ≤ a) (h1 : a ≤ b) (h2 : b < L.length) : ¬ lexLt (sufW s v (gt L b)) (sufW s v (gt L a)) := by
  rcases Int.lt_or_eq_of_le h1 with q | q
  · have := List.pairwise_iff_getElem.1 h.ord a.toNat b.toNat (by omega) (by omega) (by omega)
    rwa [← gt_in h0 (by omega), ← gt_in (by omega) h2] at this
  · subst q; exact lex_irrefl _
theorem Rnd.step (h : Rnd s v L nx) {b : Int} (h1 : 1 ≤ b) (h2 : b < L.length) : gt nx (gt L (b - 1)) ≤ gt nx (gt L b) ∧ gt nx (gt L b) ≤ gt nx (gt L (b - 1)) + 1 := by
  by_cases e : sufW s v (gt L (b - 1)) = sufW s v (gt L b)
  · rw [h.eq b h1 h2 e]; omega
  · rw [h.ne b h1 h2 e]; omega
theorem Rnd.mono (h : Rnd s v L nx) : ∀ (n : Nat) {a : Int}, 0 ≤ a → a + n < L.length → gt nx (gt L a) ≤ gt nx (gt L (a + n)) ∧ gt nx (gt L (a + n)) ≤ gt nx (gt L a) + n
  | 0, a, h0, h1 => by simp
  | n + 1, a, h0, h1 => by
    have ih := h.mono n (a := a) h0 (by omega)
    have st := h.step (b := a + (n + 1 : Nat)) (by omega) h1
    rw [show a + ((n + 1 : Nat) : Int) - 1 = a + n by omega] at st
    omega
theorem Rnd.same (h : Rnd s v L nx) : ∀ (n : Nat) {a : Int}, 0 ≤ a → a + n < L.length → (gt nx (gt L a) = gt nx (gt L (a + n)) ↔ sufW s v (gt L a) = sufW s v (gt L (a + n)))
  | 0, a, h0, h1 => by simp
  | n + 1, a, h0, h1 => by
    have e : a + ((n + 1 : Nat) : Int) - 1 = a + n := by omega
    have ih := h.same n (a := a) h0 (by omega)
    have m1 := h.mono n (a := a) h0 (by omega)
    have st := h.step (b := a + (n + 1 : Nat)) (by omega) h1
    rw [e] at st
    constructor
    · intro q
      have q1 : gt nx (gt L a) = gt nx (gt L (a + n)) := by omega
      have q2 := ih.1 q1
      by_cases c : sufW s v (gt L (a + n)) = sufW s v (gt L (a + (n + 1 : Nat)))
      · rw [q2, c]
      · have := h.ne (a + (n + 1 : Nat)) (by omega) h1 (by rw [e]; exact c)
        rw [e] at this; omega
    · intro q
      have l1 := h.le h0 (show a ≤ a + n by omega) (by omega)
      have l2 := h.le (a := a + n) (b := a + (n + 1 : Nat)) (by omega) (by omega) h1
      have c : sufW s v (gt L (a + n)) = sufW s v (gt L (a + (n + 1 : Nat))) := lex_eq (fun w => by rw [← q] at w; exact l1 w) l2
      have := h.eq (a + (n + 1 : Nat)) (by omega) h1 (by rw [e]; exact c)
      rw [e] at this
      rw [this]
      exact ih.2 (by rw [q, c])
theorem Rnd.at_ (h : Rnd s v L nx) {i : Int} (hi : inT s i) : ∃ a : Int, 0 ≤ a ∧ a < L.length ∧ gt L a = i := mem_gt (h.perm.mem_iff.2 (upTo_mem.2 hi))
theorem Rnd.mono' (h : Rnd s v L nx) {a b : Int} (h0 : 0 ≤ a) (h1 : a ≤ b) (h2 : b < L.length) : gt nx (gt L a) ≤ gt nx (gt L b) ∧ gt nx (gt L b) ≤ gt nx (gt L a) + (b - a) := by
  have := h.mono (b - a).toNat h0 (by omega)
  rw [show a + ((b - a).toNat : Int) = b by omega] at this
  omega
theorem Rnd.same' (h : Rnd s v L nx) {a b : Int} (h0 : 0 ≤ a) (h1 : a ≤ b) (h2 : b < L.length) : gt nx (gt L a) = gt nx (gt L b) ↔ sufW s v (gt L a) = sufW s v (gt L b) := by
  have := h.same (b - a).toNat h0 (by omega)
  rwa [show a + ((b - a).toNat : Int) = b by omega] at this
theorem Rnd.ranks (h : Rnd s v L nx) (hs : s.length ≤ 1000) : Ranks s v nx where
  len := h.len
  nn i hi := by
    obtain ⟨a, a0, a1, rfl⟩ := h.at_ hi
    have := h.mono' (a := 0) (by omega) a0 a1
    have e := h.r0 (by omega)
    have := h.llen
    omega
  lt i j hi hj := by
    obtain ⟨a, a0, a1, rfl⟩ := h.at_ hi
    obtain ⟨b, b0, b1, rfl⟩ := h.at_ hj
    rcases Int.lt_or_le a b with c | c
    · have m := h.mono' a0 (Int.le_of_lt c) b1
      have q := h.same' a0 (Int.le_of_lt c) b1
      have l := h.le a0 (Int.le_of_lt c) b1
      constructor
      · intro w
        rcases lex_total (sufW s v (gt L a)) (sufW s v (gt L b)) with t | t | t
        · exact t
        · have := q.2 t; omega
        · exact absurd t l
      · intro w
        have : gt nx (gt L a) ≠ gt nx (gt L b) := fun e => by rw [q.1 e] at w; exact lex_irrefl _ w
        omega
    · have m := h.mono' b0 c a1
      have l := h.le b0 c a1
      exact ⟨fun w => by omega, fun w => absurd w l⟩
/-- All parts part: the order of the ends. -/
theorem Rnd.done (h : Rnd s v L nx) (hd : L.length = 0 ∨ gt nx (gt L ((L.length : Int) - 1)) = (L.length : Int) - 1) : isSa s L := by
  refine ⟨h.perm, List.pairwise_iff_getElem.2 fun i j hi hj hij => ?_⟩
  have e1 : gt L (i : Int) = L[i] := gt_nat_in hi
  have e2 : gt L (j : Int) = L[j] := gt_nat_in hj
  rw [← e1, ← e2]
  have hd : gt nx (gt L ((L.length : Int) - 1)) = (L.length : Int) - 1 := hd.resolve_left (by omega)
  have m0 := h.mono' (a := 0) (b := i) (by omega) (by omega) (by omega)
  have m1 := h.mono' (a := i) (b := j) (by omega) (by omega) (by omega)
  have m2 := h.mono' (a := j) (b := (L.length : Int) - 1) (by omega) (by omega) (by omega)
  have e := h.r0 (by omega)
  have hne : gt nx (gt L (i : Int)) ≠ gt nx (gt L (j : Int)) := by omega
  have q := h.same' (a := i) (b := j) (by omega) (by omega) (by omega)
  have l := h.le (a := i) (b := j) (by omega) (by omega) (by omega)
  rcases lex_total (sufW s v (gt L (i : Int))) (sufW s v (gt L (j : Int))) with t | t | t
  · exact lex_of_take t
  · exact absurd (q.2 t) hne
  · exact absurd t l
theorem Rnd.more (h : Rnd s v L nx) (hn : ¬ (L.length = 0 ∨ gt nx (gt L ((L.length : Int) - 1)) = (L.length : Int) - 1)) : v < s.length := by
  rcases Int.lt_or_le v s.length with c | c
  · exact c
  exfalso
  apply hn
  by_cases h0 : L.length = 0
  · exact .inl h0
  refine .inr ?_
  have key : ∀ n : Nat, (n : Int) < L.length → gt nx (gt L n) = n := fun n => by
    induction n with
    | zero => intro _; exact h.r0 (by omega)
    | succ n ih =>
      intro hl
      have i1 := ih (by omega)
      have t1 := sa_in h.perm (gt_mem (l := L) (i := (n : Int)) (by omega) (by omega))
      have t2 := sa_in h.perm (gt_mem (l := L) (i := ((n + 1 : Nat) : Int)) (by omega) hl)
      have hne : sufW s v (gt L (n : Int)) ≠ sufW s v (gt L ((n + 1 : Nat) : Int)) := fun e => by
        rw [sufW_all t1 (by have := t1.1; omega), sufW_all t2 (by have := t2.1; omega)] at e
        have e := suf_inj t1 t2 e
        have nd : L.Nodup := h.perm.nodup_iff.2 (upTo_nodup _)
        rw [gt_nat_in (by omega), gt_nat_in (by omega)] at e
        exact List.pairwise_iff_getElem.1 (List.nodup_iff_pairwise_ne.1 nd) n (n + 1) (by omega) (by omega) (by omega) e
      have := h.ne ((n + 1 : Nat) : Int) (by omega) hl (by rw [show ((n + 1 : Nat) : Int) - 1 = n by omega]; exact hne)
      rw [show ((n + 1 : Nat) : Int) - 1 = n by omega] at this
      rw [this, i1]; omega
  have := key (L.length - 1) (by omega)
  rwa [show ((L.length - 1 : Nat) : Int) = (L.length : Int) - 1 by omega] at this
end

/-- The first ranks: the bytes. -/
theorem ranks_one {s : Bts} {rk : List Int} (hl : rk.length = s.length) (h : ∀ i, inT s i → gt rk i = (gt s i).toNat) : Ranks s 1 rk where
  len := hl
  nn i hi := by
    rw [h i hi]
    have := (gt s i).toNat_lt
    omega
  lt i j hi hj := by
    have e : ∀ k, inT s k → sufW s 1 k = [gt s k] := fun k hk => by
      show (suf s k).take 1 = _
      rw [suf_cons hk]; rfl
    rw [h i hi, h j hj, e i hi, e j hj]
    simp only [lexLt]
    constructor
    · intro q; exact .inl (by show (gt s i).toNat < (gt s j).toNat; omega)
    · rintro (q | ⟨_, q⟩)
      · have q : (gt s i).toNat < (gt s j).toNat := q
        omega
      · exact q.elim
theorem upTo_of {l : List Int} {n : Nat} (hl : l.length = n) (h : ∀ i : Int, 0 ≤ i → i < n → gt l i = i) : l = upTo n := by
  refine ext_gt (by rw [hl, upTo_len]) fun i h0 h1 => ?_
  rw [h i h0 (by omega), upTo_gt h0 (by omega)]
end Go.Fu
namespace Go.Fu
open Go.Vc
theorem take_all (s : Bts) : List.take (s.length : Int).toNat s = s := by rw [Int.toNat_natCast, List.take_length]
theorem drop_len_le (s : Bts) (n : Nat) : (s.drop n).length ≤ s.length := by rw [List.length_drop]; omega
theorem comAt_bd {s : Bts} {o : List Int} (x : Int) : 0 ≤ comAt s o x ∧ comAt s o x ≤ s.length := by
  unfold comAt
  split
  · omega
  · unfold lcpI
    have := lcp_le_l (suf s (gt o x)) (suf s (gt o (x - 1)))
    have : (suf s (gt o x)).length ≤ s.length := drop_len_le s (gt o x).toNat
    omega
theorem sumL_take_succ {l : List Int} {x : Int} (h0 : 0 ≤ x) (h1 : x < l.length) : sumL (l.take (x + 1).toNat) = sumL (l.take x.toNat) + gt l x := by
  rw [take_gt h0 h1, sumL_append]; simp [sumL]
theorem sq_bd {n : Int} (h0 : 0 ≤ n) (h1 : n ≤ 600) : 0 ≤ n * (n + 1) ∧ n * (n + 1) ≤ 360600 := by
  refine ⟨Int.mul_nonneg h0 (by omega), ?_⟩
  have := Int.mul_le_mul h1 (show n + 1 ≤ 601 by omega) (by omega) (by omega)
  omega
/-! ### Scanning all pairs -/
structure Scan (s : Bts) (x k at_ long : Int) : Prop where
  nn : 0 ≤ long
  le : ∀ i j : Int, 0 ≤ i → i < j → j < s.length → (i < x ∨ (i = x ∧ j < k)) → lcpI s i j ≤ long
  z : long = 0 → at_ = 0
  p : 0 < long → 0 ≤ at_ ∧ at_ ≤ x ∧ (∃ j : Int, at_ < j ∧ j < s.length ∧ lcpI s at_ j = long) ∧ ∀ i j : Int, 0 ≤ i → i < at_ → i < j → j < s.length → lcpI s i j < long
theorem Scan.more {s : Bts} {x k at_ long : Int} (h : Scan s x k at_ long) (x0 : 0 ≤ x) (hx : x < k) (hk : k < s.length) (c : long < lcpI s x k) : Scan s x (k + 1) x (lcpI s x k) where
  nn := lcpI_nn _ _
  le i j i0 ij jl d := by
    by_cases e : i = x ∧ j = k
    · obtain ⟨rfl, rfl⟩ := e; exact Int.le_refl _
    · have := h.le i j i0 ij jl (by omega); omega
  z e := by have := h.nn; omega
  p _ := ⟨x0, Int.le_refl _, ⟨k, hx, hk, rfl⟩, fun i j i0 ix ij jl => by have := h.le i j i0 ij jl (.inl ix); omega⟩
theorem Scan.same {s : Bts} {x k at_ long : Int} (h : Scan s x k at_ long) (hx : x < k) (hk : k < s.length) (c : ¬ long < lcpI s x k) : Scan s x (k + 1) at_ long where
  nn := h.nn
  le i j i0 ij jl d := by
    by_cases e : i = x ∧ j = k
    · obtain ⟨rfl, rfl⟩ := e; omega
    · exact h.le i j i0 ij jl (by omega)
  z := h.z
  p := h.p
theorem Scan.next {s : Bts} {x k at_ long : Int} (h : Scan s x k at_ long) (hk : (s.length : Int) ≤ k) : Scan s (x + 1) (x + 1 + 1) at_ long where
  nn := h.nn
  le i j i0 ij jl d := h.le i j i0 ij jl (by omega)
  z := h.z
  p q := by
    obtain ⟨a, b, c⟩ := h.p q
    exact ⟨a, by omega, c⟩
theorem Scan.done {s : Bts} {x k at_ long : Int} (h : Scan s x k at_ long) (hx : (s.length : Int) ≤ x) : againOk s (at_, long) :=
  ⟨h.nn, fun i j i0 ij jl => h.le i j i0 ij jl (by omega), h.z, fun q => by obtain ⟨a, b, c, d⟩ := h.p q; exact ⟨a, c, d⟩⟩
/-- Scanning the neighbours. -/
structure Nbs (s : Bts) (o : List Int) (x at_ long : Int) : Prop where
  nn : 0 ≤ long
  le : ∀ y : Int, 1 ≤ y → y < x → comAt s o y ≤ long
  z : long = 0 → at_ = 0
  p : 0 < long → (∃ y : Int, 1 ≤ y ∧ y < x ∧ comAt s o y = long ∧ at_ = min (gt o y) (gt o (y - 1))) ∧ ∀ y : Int, 1 ≤ y → y < x → comAt s o y = long → at_ ≤ min (gt o y) (gt o (y - 1))
theorem Nbs.more {s : Bts} {o : List Int} {x at_ long : Int} (h : Nbs s o x at_ long) (x1 : 1 ≤ x) (c0 : comAt s o x ≠ 0) (c : long < comAt s o x ∨ comAt s o x = long ∧ min (gt o x) (gt o (x - 1)) < at_) : Nbs s o (x + 1) (min (gt o x) (gt o (x - 1))) (comAt s o x) where
  nn := (comAt_bd x).1
  le y y1 yx := by
    by_cases e : y = x
    · subst e; exact Int.le_refl _
    · have := h.le y y1 (by omega); omega
  z e := absurd e c0
  p q := ⟨⟨x, x1, by omega, rfl, rfl⟩, fun y y1 yx e => by
    by_cases e' : y = x
    · subst e'; exact Int.le_refl _
    · have l := h.le y y1 (by omega)
      have e2 : comAt s o y = long := by omega
      have := (h.p (by omega)).2 y y1 (by omega) e2
      omega⟩
theorem Nbs.same {s : Bts} {o : List Int} {x at_ long : Int} (h : Nbs s o x at_ long) (c : ¬ (long < comAt s o x ∨ comAt s o x = long ∧ min (gt o x) (gt o (x - 1)) < at_)) : Nbs s o (x + 1) at_ long where
  nn := h.nn
  le y y1 yx := by
    by_cases e : y = x
    · subst e; omega
    · exact h.le y y1 (by omega)
  z := h.z
  p q := by
    obtain ⟨⟨y, a, b, d⟩, f⟩ := h.p q
    refine ⟨⟨y, a, by omega, d⟩, fun y y1 yx e => ?_⟩
    by_cases e' : y = x
    · subst e'; omega
    · exact f y y1 (by omega) e
theorem Nbs.skip {s : Bts} {o : List Int} {x at_ long : Int} (h : Nbs s o x at_ long) (c : comAt s o x = 0) : Nbs s o (x + 1) at_ long where
  nn := h.nn
  le y y1 yx := by
    by_cases e : y = x
    · subst e; have := h.nn; omega
    · exact h.le y y1 (by omega)
  z := h.z
  p q := by
    obtain ⟨⟨y, a, b, d⟩, f⟩ := h.p q
    refine ⟨⟨y, a, by omega, d⟩, fun y y1 yx e => ?_⟩
    by_cases e' : y = x
    · subst e'; omega
    · exact f y y1 (by omega) e
theorem Nbs.done {s : Bts} {o : List Int} (hs : isSa s o) {x at_ long : Int} (h : Nbs s o x at_ long) (hx : x = o.length) : againOk s (at_, long) := by
  subst hx
  have cm : ∀ y : Int, 1 ≤ y → comAt s o y = lcpI s (gt o y) (gt o (y - 1)) := fun y y1 => by rw [comAt, if_neg (by omega)]
  have key : ∀ i j : Int, inT s i → inT s j → i ≠ j → ∃ y : Int, 1 ≤ y ∧ y < o.length ∧ lcpI s i j ≤ comAt s o y ∧ min (gt o y) (gt o (y - 1)) ≤ i := fun i j hi hj hij => by
    obtain ⟨a, a0, a1, rfl⟩ := mem_gt (sa_mem hs hi)
    obtain ⟨b, b0, b1, rfl⟩ := mem_gt (sa_mem hs hj)
    have hab : a ≠ b := fun e => hij (by rw [e])
    rcases Int.lt_or_le a b with q | q
    · have := lcp_nb hs a0 (Int.le_refl a) (show a ≤ a + 1 by omega) (show a + 1 ≤ b by omega) b1
      refine ⟨a + 1, by omega, by omega, ?_, ?_⟩
      · rw [cm _ (by omega), lcpI_comm, show a + 1 - 1 = a by omega, lcpI_comm (s := s) (gt o (a + 1)), lcpI_comm (s := s) (gt o b)]; exact this
      · rw [show a + 1 - 1 = a by omega]; omega
    · have := lcp_nb hs b0 (show b ≤ a - 1 by omega) (show a - 1 ≤ a by omega) (Int.le_refl a) a1
      refine ⟨a, by omega, by omega, ?_, by omega⟩
      rw [cm _ (by omega), lcpI_comm, lcpI_comm (s := s) (gt o a)]; exact this
  refine ⟨h.nn, fun i j i0 ij jl => ?_, h.z, fun q => ?_⟩
  · obtain ⟨y, y1, y2, y3, _⟩ := key i j ⟨i0, by omega⟩ ⟨by omega, jl⟩ (by omega)
    have := h.le y y1 y2
    show lcpI s i j ≤ long
    omega
  · obtain ⟨⟨y, y1, y2, y3, y4⟩, f⟩ := h.p q
    simp only at q y3 y4 f ⊢
    obtain ⟨u0, u1⟩ := sa_gt hs (show 0 ≤ y by omega) y2
    obtain ⟨v0, v1⟩ := sa_gt hs (show 0 ≤ y - 1 by omega) (by omega)
    have ne : gt o y ≠ gt o (y - 1) := fun e => by have := sa_gt_inj hs (by omega) (by omega) y2 (by omega) e; omega
    refine ⟨by omega, ?_, fun i j i0 ia ij jl => ?_⟩
    · rcases Int.lt_or_le (gt o y) (gt o (y - 1)) with c | c
      · have e : at_ = gt o y := by omega
        subst e
        exact ⟨gt o (y - 1), c, v1, by rw [← cm y y1]; exact y3⟩
      · have e : at_ = gt o (y - 1) := by omega
        subst e
        exact ⟨gt o y, by omega, u1, by rw [lcpI_comm, ← cm y y1]; exact y3⟩
    · obtain ⟨z, z1, z2, z3, z4⟩ := key i j ⟨i0, by omega⟩ ⟨by omega, jl⟩ (by omega)
      have := h.le z z1 z2
      rcases Int.lt_or_le (lcpI s i j) long with c | c
      · exact c
      · have := f z z1 z2 (by omega)
        omega
end Go.Fu
