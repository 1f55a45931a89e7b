/-
  Stable sorting: what it is, that there is one outcome; parts of a list put in order; swaps, rotations, merges.
-/
import Derived.Test.YtoiebdgnfjgcpaaVpA
import Derived.Test.YtoiebdgnfjgcpaaVpB
import Derived.Test.YtoiebdgnfjgcpaaVyP
import Derived.Test.YtoiebdgnfjgcpaaVyQ
set_option linter.unusedVariables false
set_option linter.unusedSimpArgs false
set_option linter.unusedSectionVars false
namespace Go.Fu
open Go.Vc
section
variable {α : Type} (lt : α → α → Prop)

structure Swo : Prop where
  irrefl : ∀ x, ¬ lt x x
  trans : ∀ x y z, lt x y → lt y z → lt x z
  ntrans : ∀ x y z, ¬ lt x y → ¬ lt y z → ¬ lt x z
theorem Swo.asymm {lt : α → α → Prop} (h : Swo lt) {x y : α} (q : lt x y) : ¬ lt y x := fun r => h.irrefl x (h.trans _ _ _ q r)

/-- Neither comes first. -/
def alike (z x : α) : Prop := ¬ lt x z ∧ ¬ lt z x
noncomputable def cls (z : α) (l : List α) : List α := l.filter fun x => bo (alike lt z x)
/-- The same elements, those that are alike in the same order. -/
def Eqv (l m : List α) : Prop := l.Perm m ∧ ∀ z, cls lt z l = cls lt z m
def Srt (l : List α) : Prop := l.Pairwise fun x y => ¬ lt y x
noncomputable def stab (l : List α) : List α := Classical.epsilon fun m => Eqv lt l m ∧ Srt lt m

variable {lt : α → α → Prop}
theorem cls_append {z : α} {l m : List α} : cls lt z (l ++ m) = cls lt z l ++ cls lt z m := by simp [cls]
theorem Eqv.refl (l : List α) : Eqv lt l l := ⟨.refl _, fun _ => rfl⟩
theorem Eqv.symm {l m : List α} (h : Eqv lt l m) : Eqv lt m l := ⟨h.1.symm, fun z => (h.2 z).symm⟩
theorem Eqv.trans {l m k : List α} (h : Eqv lt l m) (h' : Eqv lt m k) : Eqv lt l k := ⟨h.1.trans h'.1, fun z => (h.2 z).trans (h'.2 z)⟩
theorem Eqv.append {l m l' m' : List α} (h : Eqv lt l m) (h' : Eqv lt l' m') : Eqv lt (l ++ l') (m ++ m') :=
  ⟨h.1.append h'.1, fun z => by rw [cls_append, cls_append, h.2 z, h'.2 z]⟩
theorem Eqv.cancel_left {k l m : List α} (h : Eqv lt (k ++ l) (k ++ m)) : Eqv lt l m :=
  ⟨(List.perm_append_left_iff k).1 h.1, fun z => by have := h.2 z; rw [cls_append, cls_append] at this; exact List.append_cancel_left this⟩
theorem Eqv.cancel_right {k l m : List α} (h : Eqv lt (l ++ k) (m ++ k)) : Eqv lt l m :=
  ⟨(List.perm_append_right_iff k).1 h.1, fun z => by have := h.2 z; rw [cls_append, cls_append] at this; exact List.append_cancel_right this⟩
theorem Eqv.length {l m : List α} (h : Eqv lt l m) : l.length = m.length := h.1.length_eq
/-- Two parts of which each element of the second one comes before each of the first change places. -/
theorem Eqv.rot (hs : Swo lt) {l m : List α} (h : ∀ x ∈ l, ∀ y ∈ m, lt y x) : Eqv lt (l ++ m) (m ++ l) := by
  refine ⟨List.perm_append_comm, fun z => ?_⟩
  rw [cls_append, cls_append]
  by_cases hl : cls lt z l = []
  · rw [hl]; simp
  by_cases hm : cls lt z m = []
  · rw [hm]; simp
  exfalso
  obtain ⟨x, hx⟩ := List.exists_mem_of_ne_nil _ hl
  obtain ⟨y, hy⟩ := List.exists_mem_of_ne_nil _ hm
  simp only [cls, List.mem_filter, bo_true] at hx hy
  exact hs.ntrans y z x hy.2.1 hx.2.2 (h x hx.1 y hy.1)
theorem Srt.uniq (hs : Swo lt) : ∀ {l m : List α}, Eqv lt l m → Srt lt l → Srt lt m → l = m
  | [], m, h, _, _ => by
    have := h.length
    exact (List.length_eq_zero_iff.1 (by simpa using this.symm)).symm
  | a :: r, [], h, _, _ => by have := h.length; simp at this
  | a :: r, b :: s, h, h1, h2 => by
    have h1' := List.pairwise_cons.1 h1
    have h2' := List.pairwise_cons.1 h2
    have e : a = b := by
      have ab : ¬ lt b a := by
        have hb : b ∈ a :: r := h.1.mem_iff.2 List.mem_cons_self
        rcases List.mem_cons.1 hb with q | q
        · rw [q]; exact hs.irrefl _
        · exact h1'.1 b q
      have ba : ¬ lt a b := by
        have ha : a ∈ b :: s := h.1.mem_iff.1 List.mem_cons_self
        rcases List.mem_cons.1 ha with q | q
        · rw [q]; exact hs.irrefl _
        · exact h2'.1 a q
      have c := h.2 a
      have c1 : bo (alike lt a a) = true := bo_true.2 ⟨hs.irrefl _, hs.irrefl _⟩
      have c2 : bo (alike lt a b) = true := bo_true.2 ⟨ab, ba⟩
      simp only [cls, List.filter_cons, c1, c2, if_true, List.cons.injEq] at c
      exact c.1
    subst e
    have h' : Eqv lt r s := Eqv.cancel_left (k := [a]) h
    rw [Srt.uniq hs h' h1'.2 h2'.2]
theorem stab_eq (hs : Swo lt) {l m : List α} (h : Eqv lt l m) (g : Srt lt m) : stab lt l = m := by
  have q := Classical.epsilon_spec (p := fun m => Eqv lt l m ∧ Srt lt m) ⟨m, h, g⟩
  exact (Srt.uniq hs (h.symm.trans q.1) g q.2).symm

theorem cut3 (l : List α) {a b : Int} (h0 : 0 ≤ a) (h1 : a ≤ b) (h2 : b ≤ l.length) : l = l.take a.toNat ++ (l.drop a.toNat).take (b - a).toNat ++ l.drop b.toNat := by
  rw [List.append_assoc]
  have : l.drop b.toNat = (l.drop a.toNat).drop (b - a).toNat := by rw [List.drop_drop]; congr 1; omega
  rw [this, List.take_append_drop, List.take_append_drop]
variable [Inhabited α]
/-! ### Parts -/
/-- What stands from a to b in order, the rest as it is. -/
noncomputable def seg (lt : α → α → Prop) (l : List α) (a b : Int) : List α := l.take a.toNat ++ stab lt ((l.drop a.toNat).take (b - a).toNat) ++ l.drop b.toNat
/-- Sorted from a to b. -/
def SrtIn (lt : α → α → Prop) (l : List α) (a b : Int) : Prop := ∀ p q : Int, a ≤ p → p < q → q < b → ¬ lt (gt l q) (gt l p)
/-- m is l but for what stands from a to b. -/
structure Part (lt : α → α → Prop) (l m : List α) (a b : Int) : Prop where
  eqv : Eqv lt l m
  out : ∀ p : Int, 0 ≤ p → p < l.length → (p < a ∨ b ≤ p) → gt m p = gt l p
theorem Part.refl (l : List α) (a b : Int) : Part lt l l a b := ⟨.refl _, fun _ _ _ _ => rfl⟩
theorem Part.len {l m : List α} {a b : Int} (h : Part lt l m a b) : m.length = l.length := h.eqv.length.symm
theorem Part.trans {l m k : List α} {a b : Int} (h : Part lt l m a b) (h' : Part lt m k a b) : Part lt l k a b :=
  ⟨h.eqv.trans h'.eqv, fun p p0 p1 q => by rw [h'.out p p0 (by rw [h.len]; exact p1) q, h.out p p0 p1 q]⟩
theorem Part.wide {l m : List α} {a b c d : Int} (h : Part lt l m a b) (h1 : c ≤ a) (h2 : b ≤ d) : Part lt l m c d := ⟨h.eqv, fun p p0 p1 q => h.out p p0 p1 (by omega)⟩
theorem Part.ends {l m : List α} {a b : Int} (h : Part lt l m a b) (h0 : 0 ≤ a) (h1 : a ≤ b) (h2 : b ≤ l.length) : m.take a.toNat = l.take a.toNat ∧ m.drop b.toNat = l.drop b.toNat := by
  have hl := h.len
  constructor
  · refine ext_gt (by simp [hl]) fun i i0 i1 => ?_
    have i1 : i < a := by simp only [List.length_take] at i1; omega
    rw [gt_take i0 (by omega), gt_take i0 (by omega)]
    exact h.out i i0 (by omega) (.inl i1)
  · refine ext_gt (by simp [hl]) fun i i0 i1 => ?_
    simp only [List.length_drop] at i1
    rw [gt_drop i0, gt_drop i0]
    exact h.out _ (by omega) (by omega) (.inr (by omega))
theorem Part.mid {l m : List α} {a b : Int} (h : Part lt l m a b) (h0 : 0 ≤ a) (h1 : a ≤ b) (h2 : b ≤ l.length) : Eqv lt ((l.drop a.toNat).take (b - a).toNat) ((m.drop a.toNat).take (b - a).toNat) := by
  obtain ⟨e1, e2⟩ := h.ends h0 h1 h2
  have hl := h.len
  have q := h.eqv
  rw [cut3 l h0 h1 h2, cut3 m h0 h1 (by omega), e1, e2] at q
  exact q.cancel_right.cancel_left
theorem SrtIn.srt {l : List α} {a b : Int} (h : SrtIn lt l a b) (h0 : 0 ≤ a) (h1 : a ≤ b) (h2 : b ≤ l.length) : Srt lt ((l.drop a.toNat).take (b - a).toNat) := by
  refine List.pairwise_iff_getElem.2 fun i j hi hj hij => ?_
  have hj' : j < (b - a).toNat := by simp only [List.length_take] at hj; omega
  rw [← gt_nat_in hi, ← gt_nat_in hj, gt_take (by omega) (by omega), gt_take (by omega) (by omega), gt_drop (by omega), gt_drop (by omega)]
  exact h _ _ (by omega) (by omega) (by omega)
theorem seg_eq (hs : Swo lt) {l m : List α} {a b : Int} (h : Part lt l m a b) (g : SrtIn lt m a b) (h0 : 0 ≤ a) (h1 : a ≤ b) (h2 : b ≤ l.length) : seg lt l a b = m := by
  obtain ⟨e1, e2⟩ := h.ends h0 h1 h2
  have hl := h.len
  unfold seg
  rw [stab_eq hs (h.mid h0 h1 h2) (g.srt h0 h1 (by omega)), ← e1, ← e2, ← cut3 m h0 h1 (by omega)]

/-! ### One swap -/
def swpL (l : List α) (i j : Int) : List α := (l.set i.toNat (gt l j)).set j.toNat (gt l i)
theorem swpL_len (l : List α) (i j : Int) : (swpL l i j).length = l.length := by simp [swpL]
theorem swpL_l {l : List α} {i j : Int} (i0 : 0 ≤ i) (i1 : i < l.length) (j0 : 0 ≤ j) (j1 : j < l.length) : gt (swpL l i j) i = gt l j := by
  unfold swpL
  by_cases e : i = j
  · subst e; rw [gt_set_eq i0 (by rw [List.length_set]; exact i1)]
  · rw [gt_set_ne j0 i0 (fun q => e q.symm), gt_set_eq i0 i1]
theorem swpL_r {l : List α} {i j : Int} (i0 : 0 ≤ i) (i1 : i < l.length) (j0 : 0 ≤ j) (j1 : j < l.length) : gt (swpL l i j) j = gt l i := by
  unfold swpL
  rw [gt_set_eq j0 (by rw [List.length_set]; exact j1)]
theorem swpL_o {l : List α} {i j p : Int} (i0 : 0 ≤ i) (j0 : 0 ≤ j) (p0 : 0 ≤ p) (hi : p ≠ i) (hj : p ≠ j) : gt (swpL l i j) p = gt l p := by
  unfold swpL
  rw [gt_set_ne j0 p0 (Ne.symm hj), gt_set_ne i0 p0 (Ne.symm hi)]
/-- Neighbours of which the second comes first change places. -/
theorem swp_eqv (hs : Swo lt) {l : List α} {j : Int} (j0 : 1 ≤ j) (j1 : j < l.length) (h : lt (gt l j) (gt l (j - 1))) : Eqv lt l (swpL l j (j - 1)) := by
  have e : l = l.take (j - 1).toNat ++ ([gt l (j - 1)] ++ [gt l j]) ++ l.drop (j + 1).toNat := by
    have := cut3 l (a := j - 1) (b := j + 1) (by omega) (by omega) (by omega)
    rw [show (j + 1 - (j - 1)).toNat = 2 by omega, drop_gt (l := l) (i := j - 1) (by omega) (by omega), show j - 1 + 1 = j by omega, drop_gt (l := l) (i := j) (by omega) j1] at this
    exact this
  have e' : swpL l j (j - 1) = l.take (j - 1).toNat ++ ([gt l j] ++ [gt l (j - 1)]) ++ l.drop (j + 1).toNat := by
    refine ext_gt (by rw [swpL_len]; conv => lhs; rw [e]
                      simp) fun i i0 i1 => ?_
    rw [swpL_len] at i1
    have lt1 : (l.take (j - 1).toNat).length = (j - 1).toNat := by simp; omega
    rw [List.append_assoc]
    by_cases c1 : i < j - 1
    · rw [gt_append_l i0 (by omega), gt_take i0 (by omega), swpL_o (by omega) (by omega) i0 (by omega) (by omega)]
    · rw [gt_append_r (by omega), lt1]
      by_cases c2 : i = j - 1
      · subst c2
        rw [swpL_r (by omega) j1 (by omega) (by omega)]
        rw [show j - 1 - (((j - 1).toNat : Nat) : Int) = 0 by omega]; rfl
      · by_cases c3 : i = j
        · subst c3
          rw [swpL_l (by omega) j1 (by omega) (by omega)]
          rw [show i - (((i - 1).toNat : Nat) : Int) = 1 by omega]; rfl
        · rw [swpL_o (by omega) (by omega) i0 (by omega) (by omega), gt_append_r (by simp; omega), gt_drop (by simp; omega)]
          congr 1
          simp; omega
  rw [e']
  conv => lhs; rw [e]
  exact ((Eqv.refl _).append (Eqv.rot hs (by simpa using h))).append (Eqv.refl _)
theorem swp_part (hs : Swo lt) {l m : List α} {a b j : Int} (h : Part lt l m a b) (h0 : 0 ≤ a) (ha : a < j) (hb : j < b) (h2 : b ≤ l.length) (q : lt (gt m j) (gt m (j - 1))) : Part lt l (swpL m j (j - 1)) a b :=
  ⟨h.eqv.trans (swp_eqv hs (by omega) (by rw [h.len]; omega) q), fun p p0 p1 c => by rw [swpL_o (by omega) (by omega) p0 (by omega) (by omega)]; exact h.out p p0 p1 c⟩

/-! ### The insertion sort's round -/
/-- Sorted from a to i but for what stands at j. -/
def InsIn (lt : α → α → Prop) (l : List α) (a i j : Int) : Prop := ∀ p q : Int, a ≤ p → p < q → q ≤ i → q ≠ j → ¬ lt (gt l q) (gt l p)
theorem InsIn.step (hs : Swo lt) {l : List α} {a i j : Int} (h : InsIn lt l a i j) (a0 : 0 ≤ a) (aj : a < j) (ji : j ≤ i) (il : i < l.length) (q : lt (gt l j) (gt l (j - 1))) : InsIn lt (swpL l j (j - 1)) a i (j - 1) := fun p k p0 pk ki kj => by
  by_cases c1 : k = j
  · subst c1
    rw [swpL_l (by omega) (by omega) (by omega) (by omega)]
    by_cases c2 : p = k - 1
    · subst c2; rw [swpL_r (by omega) (by omega) (by omega) (by omega)]; exact hs.asymm q
    · rw [swpL_o (by omega) (by omega) (by omega) (by omega) (by omega)]; exact h p (k - 1) p0 (by omega) (by omega) (by omega)
  · rw [swpL_o (p := k) (by omega) (by omega) (by omega) (by omega) (by omega)]
    by_cases c2 : p = j - 1
    · subst c2; rw [swpL_r (by omega) (by omega) (by omega) (by omega)]; exact h j k (by omega) (by omega) ki c1
    · by_cases c3 : p = j
      · subst c3; rw [swpL_l (by omega) (by omega) (by omega) (by omega)]; exact h (p - 1) k (by omega) (by omega) ki c1
      · rw [swpL_o (by omega) (by omega) (by omega) (by omega) (by omega)]; exact h p k p0 pk ki c1
theorem InsIn.done (hs : Swo lt) {l : List α} {a i j : Int} (h : InsIn lt l a i j) (hj : a ≤ j) (ji : j ≤ i) (q : ¬ (a < j ∧ lt (gt l j) (gt l (j - 1)))) : SrtIn lt l a (i + 1) := fun p k p0 pk ki => by
  by_cases c : k = j
  · subst c
    have q : ¬ lt (gt l k) (gt l (k - 1)) := fun w => q ⟨by omega, w⟩
    by_cases c2 : p = k - 1
    · subst c2; exact q
    · exact hs.ntrans _ _ _ q (h p (k - 1) p0 (by omega) (by omega) (by omega))
  · exact h p k p0 pk (by omega) c
theorem SrtIn.ins {l : List α} {a i : Int} (h : SrtIn lt l a i) : InsIn lt l a i i := fun p q p0 pq qi ne => h p q p0 pq (by omega)
end
end Go.Fu

/-
  Stable sorting with a comparison by closure: the library's functions' contracts; rotations, merges, blocks.
-/
set_option linter.unusedVariables false
set_option linter.unusedSimpArgs false
set_option linter.unusedSectionVars false
namespace Go.Fu
open Go.Vc
section
variable {α : Type} [Inhabited α] {lt : α → α → Prop}

/-! ### Lists by places -/
def reix (l : List α) (f : Int → Int) : List α := (List.range l.length).map fun p : Nat => gt l (f p)
theorem reix_len (l : List α) (f : Int → Int) : (reix l f).length = l.length := by simp [reix]
theorem reix_gt {l : List α} {f : Int → Int} {p : Int} (h0 : 0 ≤ p) (h1 : p < l.length) : gt (reix l f) p = gt l (f p) := by
  rw [gt_in h0 (by rw [reix_len]; exact h1)]
  simp only [reix, List.getElem_map, List.getElem_range]
  congr 2; omega
/-- The blocks of n from a and from b change places. -/
def swrF (a b n p : Int) : Int := if a ≤ p ∧ p < a + n then b + (p - a) else if b ≤ p ∧ p < b + n then a + (p - b) else p
def swr (l : List α) (a b n : Int) : List α := reix l (swrF a b n)
/-- What stands from a to m and what stands from m to b change places. -/
def rotF (a m b p : Int) : Int := if a ≤ p ∧ p < a + (b - m) then p + (m - a) else if a + (b - m) ≤ p ∧ p < b then p - (b - m) else p
def rotL (l : List α) (a m b : Int) : List α := reix l (rotF a m b)
theorem rotL_len (l : List α) (a m b : Int) : (rotL l a m b).length = l.length := reix_len _ _
theorem swr_len (l : List α) (a b n : Int) : (swr l a b n).length = l.length := reix_len _ _
theorem reix_eq {l m : List α} {f : Int → Int} (hl : m.length = l.length) (h : ∀ p : Int, 0 ≤ p → p < l.length → gt m p = gt l (f p)) : m = reix l f :=
  ext_gt (by rw [hl, reix_len]) fun p p0 p1 => by rw [reix_gt p0 (by omega)]; exact h p p0 (by omega)
theorem swr_zero (l : List α) (a b : Int) : swr l a b 0 = l := (reix_eq rfl fun p p0 p1 => by unfold swrF; rw [if_neg (by omega), if_neg (by omega)]).symm
theorem swr_succ {l : List α} {a b i : Int} (a0 : 0 ≤ a) (b0 : 0 ≤ b) (i0 : 0 ≤ i) (h1 : a + i < l.length) (h2 : b + i < l.length) (hd : a + i < b ∨ b + i < a) : swpL (swr l a b i) (a + i) (b + i) = swr l a b (i + 1) := by
  refine reix_eq (by rw [swpL_len, swr_len]) fun p p0 p1 => ?_
  have g : ∀ q : Int, 0 ≤ q → q < l.length → gt (swr l a b i) q = gt l (swrF a b i q) := fun q q0 q1 => reix_gt q0 q1
  by_cases e1 : p = a + i
  · subst e1
    rw [swpL_l (by omega) (by rw [swr_len]; omega) (by omega) (by rw [swr_len]; omega), g _ (by omega) h2]
    congr 1
    unfold swrF
    rw [if_neg (by omega), if_neg (by omega), if_pos (by omega)]; omega
  · by_cases e2 : p = b + i
    · subst e2
      rw [swpL_r (by omega) (by rw [swr_len]; omega) (by omega) (by rw [swr_len]; omega), g _ (by omega) h1]
      congr 1
      unfold swrF
      rw [if_neg (by omega), if_neg (by omega), if_neg (by omega), if_pos (by omega)]; omega
    · rw [swpL_o (by omega) (by omega) p0 e1 e2, g p p0 p1]
      congr 1
      unfold swrF
      split <;> split <;> (try split) <;> (try split) <;> omega
theorem rot_step1 {l : List α} {i j m : Int} (hj : 0 < j) (hij : j < i) (h0 : 0 ≤ m - i) (h1 : m + j ≤ l.length) : rotL (swr l (m - i) m j) (m - (i - j)) m (m + j) = rotL l (m - i) m (m + j) := by
  refine reix_eq (by rw [rotL_len, swr_len]) fun p p0 p1 => ?_
  unfold rotL
  rw [reix_gt p0 (by rw [swr_len]; exact p1)]
  have hb : 0 ≤ rotF (m - (i - j)) m (m + j) p ∧ rotF (m - (i - j)) m (m + j) p < l.length := by unfold rotF; split <;> (try split) <;> omega
  unfold swr
  rw [reix_gt hb.1 hb.2]
  congr 1
  unfold swrF rotF
  split <;> split <;> (try split) <;> (try split) <;> (try split) <;> (try split) <;> omega
theorem rot_step2 {l : List α} {i j m : Int} (hi : 0 < i) (hij : i < j) (h0 : 0 ≤ m - i) (h1 : m + j ≤ l.length) : rotL (swr l (m - i) (m + j - i) i) (m - i) m (m + (j - i)) = rotL l (m - i) m (m + j) := by
  refine reix_eq (by rw [rotL_len, swr_len]) fun p p0 p1 => ?_
  unfold rotL
  rw [reix_gt p0 (by rw [swr_len]; exact p1)]
  have hb : 0 ≤ rotF (m - i) m (m + (j - i)) p ∧ rotF (m - i) m (m + (j - i)) p < l.length := by unfold rotF; split <;> (try split) <;> omega
  unfold swr
  rw [reix_gt hb.1 hb.2]
  congr 1
  unfold swrF rotF
  split <;> split <;> (try split) <;> (try split) <;> (try split) <;> (try split) <;> omega
theorem rot_last {l : List α} {i m : Int} (hi : 0 < i) (h0 : 0 ≤ m - i) (h1 : m + i ≤ l.length) : swr l (m - i) m i = rotL l (m - i) m (m + i) := by
  refine reix_eq (by rw [swr_len]) fun p p0 p1 => ?_
  unfold swr
  rw [reix_gt p0 p1]
  congr 1
  unfold swrF rotF
  split <;> split <;> (try split) <;> (try split) <;> omega
theorem rot_id {l : List α} {a m b : Int} (h : m = a ∨ b = m) (h1 : a ≤ m) (h2 : m ≤ b) : rotL l a m b = l := by
  refine (reix_eq rfl fun p p0 p1 => ?_).symm
  congr 1
  unfold rotF
  split <;> (try split) <;> omega
theorem rot_cut {l : List α} {a m b : Int} (h0 : 0 ≤ a) (h1 : a ≤ m) (h2 : m ≤ b) (h3 : b ≤ l.length) :
    rotL l a m b = l.take a.toNat ++ ((l.drop m.toNat).take (b - m).toNat ++ (l.drop a.toNat).take (m - a).toNat) ++ l.drop b.toNat := by
  symm
  refine reix_eq (by simp; omega) fun p p0 p1 => ?_
  have e1 : (l.take a.toNat).length = a.toNat := by simp; omega
  have e2 : ((l.drop m.toNat).take (b - m).toNat).length = (b - m).toNat := by simp; omega
  have e3 : ((l.drop a.toNat).take (m - a).toNat).length = (m - a).toNat := by simp; omega
  rw [List.append_assoc, List.append_assoc]
  unfold rotF
  by_cases c1 : p < a
  · rw [gt_append_l p0 (by omega), gt_take p0 (by omega), if_neg (by omega), if_neg (by omega)]
  · rw [gt_append_r (by omega), e1]
    by_cases c2 : p < a + (b - m)
    · rw [gt_append_l (by omega) (by omega), gt_take (by omega) (by omega), gt_drop (by omega), if_pos (by omega)]
      congr 1; omega
    · rw [gt_append_r (by omega), e2]
      by_cases c3 : p < b
      · rw [gt_append_l (by omega) (by omega), gt_take (by omega) (by omega), gt_drop (by omega), if_neg (by omega), if_pos (by omega)]
        congr 1; omega
      · rw [gt_append_r (by omega), e3, gt_drop (by omega), if_neg (by omega), if_neg (by omega)]
        congr 1; omega
theorem mid_cut (l : List α) {a m b : Int} (h0 : 0 ≤ a) (h1 : a ≤ m) (h2 : m ≤ b) (h3 : b ≤ l.length) : l = l.take a.toNat ++ ((l.drop a.toNat).take (m - a).toNat ++ (l.drop m.toNat).take (b - m).toNat) ++ l.drop b.toNat := by
  have e := cut3 l (a := a) (b := b) h0 (by omega) h3
  have e2 : (l.drop a.toNat).take (b - a).toNat = (l.drop a.toNat).take (m - a).toNat ++ (l.drop m.toNat).take (b - m).toNat := by
    rw [show (b - a).toNat = (m - a).toNat + (b - m).toNat by omega, List.take_add, List.drop_drop]
    congr 3; omega
  rwa [e2] at e
theorem part_mem {l : List α} {a b : Int} {x : α} (h0 : 0 ≤ a) (h : x ∈ (l.drop a.toNat).take (b - a).toNat) : ∃ p : Int, a ≤ p ∧ p < b ∧ p < l.length ∧ gt l p = x := by
  obtain ⟨i, i0, i1, e⟩ := mem_gt h
  have i2 : i < (b - a).toNat ∧ i < (l.drop a.toNat).length := by simp only [List.length_take] at i1; omega
  have i3 := i2.2
  simp only [List.length_drop] at i3
  rw [gt_take i0 (by omega), gt_drop i0] at e
  exact ⟨i + a.toNat, by omega, by omega, by omega, e⟩
theorem mem_part {l : List α} {a b p : Int} (h0 : 0 ≤ a) (h1 : a ≤ p) (h2 : p < b) (h3 : p < l.length) : gt l p ∈ (l.drop a.toNat).take (b - a).toNat := by
  have e : gt ((l.drop a.toNat).take (b - a).toNat) (p - a) = gt l p := by
    rw [gt_take (by omega) (by omega), gt_drop (by omega)]; congr 1; omega
  rw [← e]
  exact gt_mem (by omega) (by simp only [List.length_take, List.length_drop]; omega)
theorem rot_part (hs : Swo lt) {l : List α} {a m b : Int} (h0 : 0 ≤ a) (h1 : a ≤ m) (h2 : m ≤ b) (h3 : b ≤ l.length) (h : ∀ p q : Int, a ≤ p → p < m → m ≤ q → q < b → lt (gt l q) (gt l p)) : Part lt l (rotL l a m b) a b := by
  refine ⟨?_, fun p p0 p1 c => ?_⟩
  · rw [rot_cut h0 h1 h2 h3]
    conv => lhs; rw [mid_cut l h0 h1 h2 h3]
    refine ((Eqv.refl _).append (Eqv.rot hs fun x hx y hy => ?_)).append (Eqv.refl _)
    obtain ⟨p, p0, p1, _, rfl⟩ := part_mem h0 hx
    obtain ⟨q, q0, q1, _, rfl⟩ := part_mem (by omega) hy
    exact h p q p0 p1 q0 q1
  · unfold rotL
    rw [reix_gt p0 p1]
    congr 1
    unfold rotF
    rw [if_neg (by omega), if_neg (by omega)]
theorem Part.at_ {l m : List α} {a b p : Int} (h : Part lt l m a b) (h0 : 0 ≤ a) (h1 : a ≤ p) (h2 : p < b) (h3 : b ≤ l.length) : ∃ q : Int, a ≤ q ∧ q < b ∧ gt m p = gt l q := by
  have e := (h.mid h0 (by omega) h3).1
  have := mem_part (l := m) (a := a) (b := b) (p := p) h0 h1 h2 (by rw [h.len]; omega)
  obtain ⟨q, q0, q1, _, e⟩ := part_mem h0 (e.mem_iff.2 this)
  exact ⟨q, q0, q1, e.symm⟩
theorem stab_spec (hs : Swo lt) (l : List α) : Eqv lt l (stab lt l) ∧ Srt lt (stab lt l) := by
  refine Classical.epsilon_spec (p := fun m => Eqv lt l m ∧ Srt lt m) ?_
  induction l with
  | nil => exact ⟨[], .refl _, .nil⟩
  | cons a r ih =>
    obtain ⟨m, h1, h2⟩ := ih
    -- a is put ahead of the first one that does not come before it
    have key : ∀ m : List α, Srt lt m → ∃ k, Eqv lt (a :: m) k ∧ Srt lt k ∧ ∀ x ∈ k, x = a ∨ x ∈ m := fun m => by
      induction m with
      | nil => exact fun _ => ⟨[a], .refl _, by simp [Srt], by simp⟩
      | cons b s ih2 =>
        intro hm
        have hm' := List.pairwise_cons.1 hm
        by_cases q : lt b a
        · obtain ⟨k, k1, k2, k3⟩ := ih2 hm'.2
          refine ⟨b :: k, ?_, List.pairwise_cons.2 ⟨fun x hx => ?_, k2⟩, fun x hx => ?_⟩
          · have r1 : Eqv lt ([a] ++ [b]) ([b] ++ [a]) := Eqv.rot hs (by simpa using q)
            have r2 : Eqv lt (([a] ++ [b]) ++ s) (([b] ++ [a]) ++ s) := r1.append (.refl _)
            have r3 : Eqv lt ([b] ++ (a :: s)) ([b] ++ k) := (Eqv.refl _).append k1
            exact r2.trans r3
          · rcases k3 x hx with e | e
            · rw [e]; exact hs.asymm q
            · exact hm'.1 x e
          · rcases List.mem_cons.1 hx with e | e
            · exact .inr (by rw [e]; exact List.mem_cons_self)
            · rcases k3 x e with e | e
              · exact .inl e
              · exact .inr (List.mem_cons_of_mem _ e)
        · refine ⟨a :: b :: s, .refl _, List.pairwise_cons.2 ⟨fun x hx => ?_, hm⟩, fun x hx => by simpa using hx⟩
          rcases List.mem_cons.1 hx with e | e
          · rw [e]; exact q
          · exact hs.ntrans _ _ _ (hm'.1 x e) q
    obtain ⟨k, k1, k2, _⟩ := key m h2
    exact ⟨k, (Eqv.append (Eqv.refl [a]) h1).trans k1, k2⟩
theorem seg_spec (hs : Swo lt) {l : List α} {a b : Int} (h0 : 0 ≤ a) (h1 : a ≤ b) (h2 : b ≤ l.length) : Part lt l (seg lt l a b) a b ∧ SrtIn lt (seg lt l a b) a b := by
  obtain ⟨g1, g2⟩ := stab_spec hs ((l.drop a.toNat).take (b - a).toNat)
  have hl := g1.length
  have e0 : ((l.drop a.toNat).take (b - a).toNat).length = (b - a).toNat := by simp; omega
  have e1 : (l.take a.toNat).length = a.toNat := by simp; omega
  have mid : ∀ p : Int, a ≤ p → p < b → gt (seg lt l a b) p = gt (stab lt ((l.drop a.toNat).take (b - a).toNat)) (p - a) := fun p p0 p1 => by
    unfold seg
    rw [List.append_assoc, gt_append_r (by omega), e1, gt_append_l (by omega) (by omega)]
    congr 1; omega
  refine ⟨⟨?_, fun p p0 p1 c => ?_⟩, fun p q p0 pq qb => ?_⟩
  · unfold seg
    conv => lhs; rw [cut3 l h0 h1 h2]
    exact ((Eqv.refl _).append g1).append (Eqv.refl _)
  · unfold seg
    rw [List.append_assoc]
    by_cases c1 : p < a
    · rw [gt_append_l p0 (by omega), gt_take p0 (by omega)]
    · rw [gt_append_r (by omega), e1, gt_append_r (by omega), ← hl, e0, gt_drop (by omega)]
      congr 1; omega
  · rw [mid p p0 (by omega), mid q (by omega) qb, gt_in (by omega) (by omega), gt_in (by omega) (by omega)]
    exact List.pairwise_iff_getElem.1 g2 _ _ _ _ (by omega)
theorem stab_len (hs : Swo lt) (l : List α) : (stab lt l).length = l.length := ((stab_spec hs l).1.length).symm
theorem seg_all (l : List α) : seg lt l 0 l.length = stab lt l := by
  unfold seg
  simp
end

/-! ### Contracts -/
/-- A comparison by a closure: its function, what it has captured, which elements it may be asked of, what it answers. -/
structure Sq where
  et : Ty
  g : Nat
  kt : Tys
  caps : Ts kt → List TV
  dec : List TV → Option (Ts kt)
  decok : ∀ xs k, dec xs = some k → xs = caps k
  ok : Ts kt → T et → Prop
  cf : Ts kt → T et → T et → Int
  lt : Ts kt → T et → T et → Prop
  iff : ∀ k x y, lt k x y ↔ cf k x y < 0
def Sq.cr (q : Sq) : Cr := ⟨.cons q.et (.cons q.et .nil), q.kt, q.caps, q.dec, fun k x => q.ok k x.1 ∧ q.ok k x.2, tI, fun k x => q.cf k x.1 x.2⟩
def findSlf : List TV → Option Nat
  | .slf l :: _ => some l
  | _ => none
abbrev okAll (q : Sq) (k : Ts q.kt) (ls : List (T q.et)) : Prop := (ls.length : Int) ≤ 140737488351232 ∧ (∀ x ∈ ls, q.ok k x) ∧ Swo (q.lt k)
def dec2 (q : Sq) : List TV → Option (Ts q.kt × (Int × Int))
  | [.slf l, .int .i64 a, .int .i64 b, .fn g cs] => (match Nat.beq l 0, Nat.beq g q.g, q.dec cs with | true, true, some k => some (k, (a, b)) | _, _, _ => none)
  | _ => none
def dec3 (q : Sq) : List TV → Option (Ts q.kt × (Int × Int × Int))
  | [.slf l, .int .i64 a, .int .i64 b, .int .i64 c, .fn g cs] => (match Nat.beq l 0, Nat.beq g q.g, q.dec cs with | true, true, some k => some (k, (a, b, c)) | _, _, _ => none)
  | _ => none
def dec1 (q : Sq) : List TV → Option (Ts q.kt × Int)
  | [.slf l, .int .i64 a, .fn g cs] => (match Nat.beq l 0, Nat.beq g q.g, q.dec cs with | true, true, some k => some (k, a) | _, _, _ => none)
  | _ => none
def dec0 (q : Sq) : List TV → Option (Ts q.kt × Unit)
  | [.slf l, .fn g cs] => (match Nat.beq l 0, Nat.beq g q.g, q.dec cs with | true, true, some k => some (k, ()) | _, _, _ => none)
  | _ => none
noncomputable section
def ins_cz (q : Sq) : Cz := ⟨q.et, q.kt, tys2 tI tI, fun k (a : Int × Int) => [.slf 0, .int .i64 a.1, .int .i64 a.2, .fn q.g (q.caps k)], dec2 q, findSlf,
  fun k ls (a : Int × Int) => 0 ≤ a.1 ∧ a.1 ≤ a.2 ∧ a.2 ≤ ls.length ∧ okAll q k ls, fun k ls (a : Int × Int) => @seg _ (q.lt k) ls a.1 a.2⟩
def swr_cz (q : Sq) : Cz := ⟨q.et, q.kt, tys3 tI tI tI, fun k (a : Int × Int × Int) => [.slf 0, .int .i64 a.1, .int .i64 a.2.1, .int .i64 a.2.2, .fn q.g (q.caps k)], dec3 q, findSlf,
  fun k ls (a : Int × Int × Int) => 0 ≤ a.1 ∧ 0 ≤ a.2.1 ∧ 0 ≤ a.2.2 ∧ a.1 + a.2.2 ≤ ls.length ∧ a.2.1 + a.2.2 ≤ ls.length ∧ (a.1 + a.2.2 ≤ a.2.1 ∨ a.2.1 + a.2.2 ≤ a.1) ∧ (ls.length : Int) ≤ 140737488351232, fun k ls (a : Int × Int × Int) => @swr _ ⟨zT q.et⟩ ls a.1 a.2.1 a.2.2⟩
def rot_cz (q : Sq) : Cz := ⟨q.et, q.kt, tys3 tI tI tI, fun k (a : Int × Int × Int) => [.slf 0, .int .i64 a.1, .int .i64 a.2.1, .int .i64 a.2.2, .fn q.g (q.caps k)], dec3 q, findSlf,
  fun k ls (a : Int × Int × Int) => 0 ≤ a.1 ∧ a.1 < a.2.1 ∧ a.2.1 < a.2.2 ∧ a.2.2 ≤ ls.length ∧ (ls.length : Int) ≤ 140737488351232, fun k ls (a : Int × Int × Int) => @rotL _ ⟨zT q.et⟩ ls a.1 a.2.1 a.2.2⟩
def symPre (q : Sq) (k : Ts q.kt) (ls : List (T q.et)) (a m b : Int) : Prop := 0 ≤ a ∧ a < m ∧ m < b ∧ b ≤ ls.length ∧ okAll q k ls ∧ @SrtIn _ ⟨zT q.et⟩ (q.lt k) ls a m ∧ @SrtIn _ ⟨zT q.et⟩ (q.lt k) ls m b
def sym_cz (q : Sq) : Cz := ⟨q.et, q.kt, tys3 tI tI tI, fun k (a : Int × Int × Int) => [.slf 0, .int .i64 a.1, .int .i64 a.2.1, .int .i64 a.2.2, .fn q.g (q.caps k)], dec3 q, findSlf,
  fun k ls (a : Int × Int × Int) => symPre q k ls a.1 a.2.1 a.2.2, fun k ls (a : Int × Int × Int) => @seg _ (q.lt k) ls a.1 a.2.2⟩
/-- .. of fewer than n. -/
def symN_cz (q : Sq) (n : Nat) : Cz := ⟨q.et, q.kt, tys3 tI tI tI, fun k (a : Int × Int × Int) => [.slf 0, .int .i64 a.1, .int .i64 a.2.1, .int .i64 a.2.2, .fn q.g (q.caps k)], dec3 q, findSlf,
  fun k ls (a : Int × Int × Int) => symPre q k ls a.1 a.2.1 a.2.2 ∧ a.2.2 - a.1 < n, fun k ls (a : Int × Int × Int) => @seg _ (q.lt k) ls a.1 a.2.2⟩
def stb_cz (q : Sq) : Cz := ⟨q.et, q.kt, tys1 tI, fun k (n : Int) => [.slf 0, .int .i64 n, .fn q.g (q.caps k)], dec1 q, findSlf,
  fun k ls (n : Int) => n = ls.length ∧ okAll q k ls, fun k ls (n : Int) => stab (q.lt k) ls⟩
def sst_cz (q : Sq) : Cz := ⟨q.et, q.kt, .nil, fun k (_ : Unit) => [.slf 0, .fn q.g (q.caps k)], dec0 q, findSlf,
  fun k ls (_ : Unit) => okAll q k ls, fun k ls (_ : Unit) => stab (q.lt k) ls⟩
end
theorem dec2_ok (q : Sq) : ∀ xs k a, dec2 q xs = some (k, a) → xs = [.slf 0, .int .i64 a.1, .int .i64 a.2, .fn q.g (q.caps k)] := fun xs k a h => by
  unfold dec2 at h
  split at h
  · split at h
    · rename_i h1 h2 h3
      cases h
      rw [beq_eq h1, beq_eq h2, q.decok _ _ h3]
    · cases h
  · cases h
theorem dec3_ok (q : Sq) : ∀ xs k a, dec3 q xs = some (k, a) → xs = [.slf 0, .int .i64 a.1, .int .i64 a.2.1, .int .i64 a.2.2, .fn q.g (q.caps k)] := fun xs k a h => by
  unfold dec3 at h
  split at h
  · split at h
    · rename_i h1 h2 h3
      cases h
      rw [beq_eq h1, beq_eq h2, q.decok _ _ h3]
    · cases h
  · cases h
theorem dec1_ok (q : Sq) : ∀ xs k a, dec1 q xs = some (k, a) → xs = [.slf 0, .int .i64 a, .fn q.g (q.caps k)] := fun xs k a h => by
  unfold dec1 at h
  split at h
  · split at h
    · rename_i h1 h2 h3
      cases h
      rw [beq_eq h1, beq_eq h2, q.decok _ _ h3]
    · cases h
  · cases h
theorem dec0_ok (q : Sq) : ∀ xs k a, dec0 q xs = some (k, a) → xs = [.slf 0, .fn q.g (q.caps k)] := fun xs k a h => by
  unfold dec0 at h
  split at h
  · split at h
    · rename_i h1 h2 h3
      cases h
      rw [beq_eq h1, beq_eq h2, q.decok _ _ h3]
    · cases h
  · cases h
end Go.Fu

/-
  Stable sorting: merging in place, blocks.
-/
set_option linter.unusedVariables false
set_option linter.unusedSimpArgs false
set_option linter.unusedSectionVars false
namespace Go.Fu
open Go.Vc
theorem half64 {a : Int} (h0 : 0 ≤ a) (h1 : a ≤ 9223372036854775807) : (IntKind.u64.wrap a).fdiv (2 ^ min (Int.toNat 1) IntKind.u64.bits) = a / 2 := by
  have : IntKind.u64.wrap a = a := by simp [IntKind.wrap, IntKind.bits, IntKind.signed]; omega
  rw [this]
  exact Int.fdiv_eq_ediv_of_nonneg _ (by decide)
section
variable {α : Type} [Inhabited α] {lt : α → α → Prop}
theorem swpL_comm {l : List α} {i j : Int} (i0 : 0 ≤ i) (i1 : i < l.length) (j0 : 0 ≤ j) (j1 : j < l.length) : swpL l i j = swpL l j i := by
  refine ext_gt (by rw [swpL_len, swpL_len]) fun p p0 p1 => ?_
  by_cases e1 : p = i
  · subst e1; rw [swpL_l i0 i1 j0 j1, swpL_r j0 j1 i0 i1]
  · by_cases e2 : p = j
    · subst e2; rw [swpL_r i0 i1 j0 j1, swpL_l j0 j1 i0 i1]
    · rw [swpL_o i0 j0 p0 e1 e2, swpL_o j0 i0 p0 e2 e1]

/-! ### One element into a sorted part -/
structure ShL (l d : List α) (a k : Int) : Prop where
  len : d.length = l.length
  at_ : gt d k = gt l a
  lo : ∀ p : Int, a ≤ p → p < k → gt d p = gt l (p + 1)
  hi : ∀ p : Int, k < p → p < l.length → gt d p = gt l p
theorem ShL.step {l d : List α} {a k : Int} (h : ShL l d a k) (a0 : 0 ≤ a) (ak : a ≤ k) (kl : k + 1 < l.length) : ShL l (swpL d k (k + 1)) a (k + 1) where
  len := by rw [swpL_len, h.len]
  at_ := by rw [swpL_r (by omega) (by rw [h.len]; omega) (by omega) (by rw [h.len]; omega), h.at_]
  lo p p0 p1 := by
    by_cases e : p = k
    · subst e; rw [swpL_l (by omega) (by rw [h.len]; omega) (by omega) (by rw [h.len]; omega), h.hi _ (by omega) kl]
    · rw [swpL_o (by omega) (by omega) (by omega) e (by omega), h.lo p p0 (by omega)]
  hi p p0 p1 := by rw [swpL_o (by omega) (by omega) (by omega) (by omega) (by omega), h.hi p (by omega) p1]
theorem ShL.srt (hs : Swo lt) {l d : List α} {a b i : Int} (h : ShL l d a (i - 1)) (a0 : 0 ≤ a) (bl : b ≤ l.length) (hi : a + 1 ≤ i) (ib : i ≤ b) (hsr : SrtIn lt l (a + 1) b)
    (h1 : ∀ q : Int, a + 1 ≤ q → q < i → lt (gt l q) (gt l a)) (h2 : ∀ q : Int, i ≤ q → q < b → ¬ lt (gt l q) (gt l a)) : SrtIn lt d a b := fun p q p0 pq qb => by
  by_cases c1 : q < i - 1
  · rw [h.lo p p0 (by omega), h.lo q (by omega) c1]; exact hsr _ _ (by omega) (by omega) (by omega)
  · by_cases c2 : q = i - 1
    · subst c2; rw [h.at_, h.lo p p0 (by omega)]; exact hs.asymm (h1 _ (by omega) (by omega))
    · rw [h.hi q (by omega) (by omega)]
      by_cases c3 : p < i - 1
      · rw [h.lo p p0 c3]; exact hsr _ _ (by omega) (by omega) qb
      · by_cases c4 : p = i - 1
        · subst c4; rw [h.at_]; exact h2 q (by omega) qb
        · rw [h.hi p (by omega) (by omega)]; exact hsr p q (by omega) pq qb
structure ShR (l d : List α) (m k : Int) : Prop where
  len : d.length = l.length
  at_ : gt d k = gt l m
  lo : ∀ p : Int, 0 ≤ p → p < k → gt d p = gt l p
  hi : ∀ p : Int, k < p → p ≤ m → gt d p = gt l (p - 1)
theorem ShR.step {l d : List α} {m k : Int} (h : ShR l d m k) (k0 : 1 ≤ k) (km : k ≤ m) (ml : m < l.length) : ShR l (swpL d k (k - 1)) m (k - 1) where
  len := by rw [swpL_len, h.len]
  at_ := by rw [swpL_r (by omega) (by rw [h.len]; omega) (by omega) (by rw [h.len]; omega), h.at_]
  lo p p0 p1 := by rw [swpL_o (by omega) (by omega) p0 (by omega) (by omega), h.lo p p0 (by omega)]
  hi p p0 p1 := by
    by_cases e : p = k
    · subst e; rw [swpL_l (by omega) (by rw [h.len]; omega) (by omega) (by rw [h.len]; omega), h.lo _ (by omega) (by omega)]
    · rw [swpL_o (by omega) (by omega) (by omega) e (by omega), h.hi p (by omega) p1]
theorem ShR.srt (hs : Swo lt) {l d : List α} {a m i : Int} (h : ShR l d m i) (a0 : 0 ≤ a) (ml : m < l.length) (hi : a ≤ i) (im : i ≤ m) (hsr : SrtIn lt l a m)
    (h1 : ∀ q : Int, i ≤ q → q < m → lt (gt l m) (gt l q)) (h2 : ∀ q : Int, a ≤ q → q < i → ¬ lt (gt l m) (gt l q)) : SrtIn lt d a (m + 1) := fun p q p0 pq qb => by
  by_cases c1 : q < i
  · rw [h.lo p (by omega) (by omega), h.lo q (by omega) c1]; exact hsr p q p0 pq (by omega)
  · by_cases c2 : q = i
    · subst c2; rw [h.at_, h.lo p (by omega) pq]; exact h2 p p0 pq
    · rw [h.hi q (by omega) (by omega)]
      by_cases c3 : p < i
      · rw [h.lo p (by omega) c3]; exact hsr _ _ p0 (by omega) (by omega)
      · by_cases c4 : p = i
        · subst c4; rw [h.at_]; exact hs.asymm (h1 _ (by omega) (by omega))
        · rw [h.hi p (by omega) (by omega)]; exact hsr _ _ (by omega) (by omega) (by omega)

/-! ### Two halves -/
structure SymOk (lt : α → α → Prop) (l : List α) (a m b mid st en : Int) : Prop where
  a0 : 0 ≤ a
  am : a < m
  mb : m < b
  bl : b ≤ l.length
  en_eq : en = mid + m - st
  s0 : a ≤ st
  s1 : st ≤ m
  s2 : st ≤ mid
  e0 : m ≤ en
  e1 : en ≤ b
  e2 : mid ≤ en
  sl : SrtIn lt l a m
  sr : SrtIn lt l m b
  h1 : a < st → en < b → ¬ lt (gt l en) (gt l (st - 1))
  h2 : st < m → m < en → lt (gt l (en - 1)) (gt l st)
section
variable {l : List α} {a m b mid st en : Int}
theorem SymOk.low (h : SymOk lt l a m b mid st en) {p : Int} (p0 : 0 ≤ p) (p1 : p < st) : gt (rotL l st m en) p = gt l p := by
  have := h.s1; have := h.bl; have := h.mb; have := h.e0
  unfold rotL; rw [reix_gt p0 (by omega)]; unfold rotF; rw [if_neg (by omega), if_neg (by omega)]
theorem SymOk.mid1 (h : SymOk lt l a m b mid st en) {p : Int} (p0 : st ≤ p) (p1 : p < mid) : gt (rotL l st m en) p = gt l (p + (m - st)) := by
  have := h.s1; have := h.bl; have := h.mb; have := h.a0; have := h.s0; have := h.en_eq; have := h.e1; have := h.e2
  unfold rotL; rw [reix_gt (by omega) (by omega)]; unfold rotF; rw [if_pos (by omega)]
theorem SymOk.mid2 (h : SymOk lt l a m b mid st en) {p : Int} (p0 : mid ≤ p) (p1 : p < en) : gt (rotL l st m en) p = gt l (p - (en - m)) := by
  have := h.s1; have := h.bl; have := h.mb; have := h.a0; have := h.s0; have := h.en_eq; have := h.e1; have := h.s2
  unfold rotL; rw [reix_gt (by omega) (by omega)]; unfold rotF; rw [if_neg (by omega), if_pos (by omega)]
theorem SymOk.high (h : SymOk lt l a m b mid st en) {p : Int} (p0 : en ≤ p) (p1 : p < l.length) : gt (rotL l st m en) p = gt l p := by
  have := h.s1; have := h.bl; have := h.mb; have := h.a0; have := h.s0; have := h.en_eq; have := h.e1; have := h.e0
  unfold rotL; rw [reix_gt (by omega) p1]; unfold rotF; rw [if_neg (by omega), if_neg (by omega)]
theorem SymOk.part (hs : Swo lt) (h : SymOk lt l a m b mid st en) : Part lt l (rotL l st m en) a b := by
  have := h.s1; have := h.bl; have := h.mb; have := h.a0; have := h.s0; have := h.en_eq; have := h.e1; have := h.e0; have := h.am
  refine (rot_part hs (by omega) h.s1 h.e0 (by omega) fun p q p0 p1 q0 q1 => ?_).wide h.s0 h.e1
  have t := h.h2 (by omega) (by omega)
  -- l[q] ≤ l[en-1] < l[st] ≤ l[p]
  have u : ¬ lt (gt l (en - 1)) (gt l q) := by
    by_cases e : q = en - 1
    · subst e; exact hs.irrefl _
    · exact h.sr q (en - 1) q0 (by omega) (by omega)
  have v : ¬ lt (gt l p) (gt l st) := by
    by_cases e : p = st
    · subst e; exact hs.irrefl _
    · exact h.sl st p h.s0 (by omega) p1
  rcases Classical.em (lt (gt l q) (gt l p)) with w | w
  · exact w
  · exact absurd t (hs.ntrans _ _ _ u (hs.ntrans _ _ _ w v))
theorem SymOk.srt1 (h : SymOk lt l a m b mid st en) : SrtIn lt (rotL l st m en) a st := fun p q p0 pq qb => by
  have := h.a0
  rw [h.low (p := p) (by omega) (by omega), h.low (p := q) (by omega) qb]; exact h.sl p q p0 pq (by have := h.s1; omega)
theorem SymOk.srt2 (h : SymOk lt l a m b mid st en) : SrtIn lt (rotL l st m en) st mid := fun p q p0 pq qb => by
  have := h.en_eq; have := h.e1
  rw [h.mid1 (p := p) p0 (by omega), h.mid1 (p := q) (by omega) qb]; exact h.sr _ _ (by omega) (by omega) (by omega)
theorem SymOk.srt3 (h : SymOk lt l a m b mid st en) : SrtIn lt (rotL l st m en) mid en := fun p q p0 pq qb => by
  have := h.en_eq; have := h.s0
  rw [h.mid2 (p := p) p0 (by omega), h.mid2 (p := q) (by omega) qb]; exact h.sl _ _ (by omega) (by omega) (by omega)
theorem SymOk.srt4 (h : SymOk lt l a m b mid st en) : SrtIn lt (rotL l st m en) en b := fun p q p0 pq qb => by
  have := h.bl; have := h.e0
  rw [h.high (p := p) p0 (by omega), h.high (p := q) (by omega) (by omega)]; exact h.sr p q (by omega) pq qb
theorem SymOk.left (h : SymOk lt l a m b mid st en) (c : ¬ (a < st ∧ st < mid)) : SrtIn lt (rotL l st m en) a mid := by
  have := h.s0; have := h.s2
  by_cases e : st = a
  · exact e ▸ h.srt2
  · have e : st = mid := by omega
    have := h.srt1
    rwa [e] at this ⊢
theorem SymOk.right (h : SymOk lt l a m b mid st en) (c : ¬ (mid < en ∧ en < b)) : SrtIn lt (rotL l st m en) mid b := by
  have := h.e1; have := h.e2
  by_cases e : en = b
  · have := h.srt3; rwa [e] at this ⊢
  · have e : en = mid := by omega
    have := h.srt4; rwa [e] at this ⊢
theorem SymOk.cross (hs : Swo lt) (h : SymOk lt l a m b mid st en) {p q : Int} (p0 : a ≤ p) (p1 : p < mid) (q0 : mid ≤ q) (q1 : q < b) : ¬ lt (gt (rotL l st m en) q) (gt (rotL l st m en) p) := by
  have g1 := h.s1; have g2 := h.bl; have g3 := h.mb; have g4 := h.a0; have g5 := h.s0; have g6 := h.en_eq; have g7 := h.e1; have g8 := h.e0; have g9 := h.am
  by_cases c1 : p < st
  · rw [h.low (by omega) c1]
    by_cases c2 : q < en
    · rw [h.mid2 q0 c2]; exact h.sl _ _ p0 (by omega) (by omega)
    · rw [h.high (by omega) (by omega)]
      have t := h.h1 (by omega) (by omega)
      have u : ¬ lt (gt l q) (gt l en) := by
        by_cases e : q = en
        · subst e; exact hs.irrefl _
        · exact h.sr en q (by omega) (by omega) q1
      have v : ¬ lt (gt l (st - 1)) (gt l p) := by
        by_cases e : p = st - 1
        · subst e; exact hs.irrefl _
        · exact h.sl p (st - 1) p0 (by omega) (by omega)
      exact hs.ntrans _ _ _ u (hs.ntrans _ _ _ t v)
  · rw [h.mid1 (by omega) p1]
    by_cases c2 : q < en
    · rw [h.mid2 q0 c2]
      have t := h.h2 (by omega) (by omega)
      have u : ¬ lt (gt l (en - 1)) (gt l (p + (m - st))) := by
        by_cases e : p + (m - st) = en - 1
        · rw [e]; exact hs.irrefl _
        · exact h.sr _ (en - 1) (by omega) (by omega) (by omega)
      have v : ¬ lt (gt l (q - (en - m))) (gt l st) := by
        by_cases e : q - (en - m) = st
        · rw [e]; exact hs.irrefl _
        · exact h.sl st _ (by omega) (by omega) (by omega)
      intro w
      exact absurd t (hs.ntrans _ _ _ u (hs.ntrans _ _ _ (hs.asymm w) v))
    · rw [h.high (by omega) (by omega)]; exact h.sr _ _ (by omega) (by omega) q1
theorem SymOk.fin (hs : Swo lt) (h : SymOk lt l a m b mid st en) {d2 d3 : List α} (h2 : Part lt (rotL l st m en) d2 a mid) (s2 : SrtIn lt d2 a mid) (h3 : Part lt d2 d3 mid b) (s3 : SrtIn lt d3 mid b) : d3 = seg lt l a b := by
  have g1 := h.s1; have g2 := h.bl; have g3 := h.mb; have g4 := h.a0; have g5 := h.s0; have g6 := h.en_eq; have g7 := h.e1; have g8 := h.e2; have g9 := h.am; have g10 := h.s2
  have l1 := rotL_len l st m en
  have l2 := h2.len
  have l3 := h3.len
  refine (seg_eq hs (((h.part hs).trans (h2.wide (Int.le_refl _) (by omega))).trans (h3.wide (by omega) (Int.le_refl _))) (fun p q p0 pq qb => ?_) g4 (by omega) g2).symm
  by_cases c1 : q < mid
  · rw [h3.out q (by omega) (by omega) (.inl c1), h3.out p (by omega) (by omega) (.inl (by omega))]
    exact s2 p q p0 pq c1
  · by_cases c2 : mid ≤ p
    · exact s3 p q c2 pq qb
    · rw [h3.out p (by omega) (by omega) (.inl (by omega))]
      obtain ⟨p', p1, p2, e1⟩ := h2.at_ g4 p0 (show p < mid by omega) (by omega)
      obtain ⟨q', q1, q2, e2⟩ := h3.at_ (by omega) (show mid ≤ q by omega) qb (by omega)
      rw [e1, e2, h2.out q' (by omega) (by omega) (.inr q1)]
      exact h.cross hs p1 p2 q1 q2
end

/-! ### Blocks -/
/-- From a on: each block of w is in order. -/
def BlkFrom (lt : α → α → Prop) (l : List α) (w a : Int) : Prop := ∀ c : Int, a ≤ c → w ∣ c - a → SrtIn lt l c (min (c + w) l.length)
/-- Up to a: likewise. -/
def BlkTo (lt : α → α → Prop) (l : List α) (w a : Int) : Prop := ∀ c : Int, 0 ≤ c → c < a → w ∣ c → SrtIn lt l c (c + w)
theorem BlkTo.zero (l : List α) (w : Int) : BlkTo lt l w 0 := fun c c0 c1 _ => by omega
theorem srt_out {l m : List α} {a b c d : Int} (h : Part lt l m a b) (hc : 0 ≤ c) (hd : d ≤ l.length) (ho : d ≤ a ∨ b ≤ c) (g : SrtIn lt l c d) : SrtIn lt m c d := fun p q p0 pq qd => by
  rw [h.out p (by omega) (by omega) (by omega), h.out q (by omega) (by omega) (by omega)]
  exact g p q p0 pq qd
theorem BlkTo.step {l m : List α} {w a : Int} (h : BlkTo lt l w a) (hp : Part lt l m a (a + w)) (hg : SrtIn lt m a (a + w)) (a0 : 0 ≤ a) (w0 : 0 < w) (al : a ≤ l.length) (ha : w ∣ a) : BlkTo lt m w (a + w) := fun c c0 c1 hc => by
  by_cases e : c = a
  · subst e; exact hg
  · have ca : c < a := by
      rcases Int.lt_or_le c a with q | q
      · exact q
      · have := Int.le_of_dvd (show 0 < c - a by omega) (Int.dvd_sub hc ha); omega
    have cw : c + w ≤ a := by
      have := Int.le_of_dvd (show 0 < a - c by omega) (Int.dvd_sub ha hc); omega
    exact srt_out hp c0 (by omega) (.inl cw) (h c c0 ca hc)
theorem BlkFrom.step {l m : List α} {w a : Int} (h : BlkFrom lt l w a) (hp : Part lt l m a (a + 2 * w)) (a0 : 0 ≤ a) (w0 : 0 < w) : BlkFrom lt m w (a + 2 * w) := fun c c0 hc => by
  have hl := hp.len
  rw [hl]
  have := h c (by omega) (by
    have e : c - a = (c - (a + 2 * w)) + 2 * w := by omega
    rw [e]; exact Int.dvd_add hc ⟨2, by omega⟩)
  exact srt_out hp (by omega) (Int.min_le_right _ _) (.inr (by omega)) this
/-- All blocks, the last one shorter. -/
theorem blk_all {l : List α} {w a : Int} (h : BlkTo lt l w a) (ha : w ∣ a) (w0 : 0 < w) (hl : (l.length : Int) < a + w) (hg : SrtIn lt l a l.length) : BlkFrom lt l w 0 := fun c c0 hc => by
  rw [Int.sub_zero] at hc
  by_cases e : c < a
  · have cw : c + w ≤ a := by
      have := Int.le_of_dvd (show 0 < a - c by omega) (Int.dvd_sub ha hc); omega
    intro p q p0 pq qb
    exact h c c0 e hc p q p0 pq (by omega)
  · intro p q p0 pq qb
    exact hg p q (by omega) pq (by omega)
theorem blk_srt {l : List α} {w : Int} (h : BlkFrom lt l w 0) (hl : (l.length : Int) ≤ w) : SrtIn lt l 0 l.length := fun p q p0 pq qb => h 0 (Int.le_refl _) (by rw [Int.sub_self]; exact Int.dvd_zero _) p q p0 pq (by omega)
theorem dvd_two {w a : Int} (h : 2 * w ∣ a) : w ∣ a := Int.dvd_trans ⟨2, by omega⟩ h
end
end Go.Fu

/-
  Stable sorting by a less function over places and a swapper (package sort): the library's functions' contracts.
-/
set_option linter.unusedVariables false
set_option linter.unusedSimpArgs false
set_option linter.unusedSectionVars false
namespace Go.Fu
open Go.Vc
/-- A less function by a closure that reads the row: its function, what it has captured (the row stands in it), the swapper's literal. -/
structure Sl where
  et : Ty
  g : Nat
  kt : Tys
  caps : Ts kt → List TV
  decZ : List TV → Option (Ts kt)
  decZok : ∀ xs k, decZ xs = some k → xs = caps k
  sw : Nat
  gs : Nat
  e : Nat
  ok : Ts kt → T et → Prop
  lt : Ts kt → T et → T et → Prop
noncomputable section
def Sl.data (q : Sl) (k : Ts q.kt) : TV := .agg [.fn q.g (q.caps k), .fn q.sw [.slf 0, .cst (tyH q.gs q.e)]]
def Sl.dd (q : Sl) : TV → Option (Ts q.kt)
  | .agg [.fn g cs, .fn s [.slf l, .cst v]] => (match Nat.beq g q.g, Nat.beq s q.sw, Nat.beq l 0, isTyH q.gs q.e v, q.decZ cs with | true, true, true, true, some k => some k | _, _, _, _, _ => none)
  | _ => none
theorem Sl.dd_ok (q : Sl) {x : TV} {k : Ts q.kt} (h : q.dd x = some k) : x = q.data k := by
  unfold Sl.dd at h
  split at h
  · split at h
    · rename_i h1 h2 h3 h4 h5
      cases h
      rw [beq_eq h1, beq_eq h2, beq_eq h3, isTyH_eq h4, q.decZok _ _ h5]; rfl
    · cases h
  · cases h
def findD : List TV → Option Nat
  | .agg [_, .fn _ [.slf l, _]] :: _ => some l
  | _ => none
def decD1 (q : Sl) : List TV → Option (Ts q.kt × Int)
  | [d, .int .i64 a] => (match q.dd d with | some k => some (k, a) | none => none)
  | _ => none
def decD2 (q : Sl) : List TV → Option (Ts q.kt × (Int × Int))
  | [d, .int .i64 a, .int .i64 b] => (match q.dd d with | some k => some (k, (a, b)) | none => none)
  | _ => none
def decD3 (q : Sl) : List TV → Option (Ts q.kt × (Int × Int × Int))
  | [d, .int .i64 a, .int .i64 b, .int .i64 c] => (match q.dd d with | some k => some (k, (a, b, c)) | none => none)
  | _ => none
theorem decD1_ok (q : Sl) : ∀ xs k a, decD1 q xs = some (k, a) → xs = [q.data k, .int .i64 a] := fun xs k a h => by
  unfold decD1 at h
  split at h
  · split at h
    · rename_i h1
      cases h
      rw [q.dd_ok h1]
    · cases h
  · cases h
theorem decD2_ok (q : Sl) : ∀ xs k a, decD2 q xs = some (k, a) → xs = [q.data k, .int .i64 a.1, .int .i64 a.2] := fun xs k a h => by
  unfold decD2 at h
  split at h
  · split at h
    · rename_i h1
      cases h
      rw [q.dd_ok h1]
    · cases h
  · cases h
theorem decD3_ok (q : Sl) : ∀ xs k a, decD3 q xs = some (k, a) → xs = [q.data k, .int .i64 a.1, .int .i64 a.2.1, .int .i64 a.2.2] := fun xs k a h => by
  unfold decD3 at h
  split at h
  · split at h
    · rename_i h1
      cases h
      rw [q.dd_ok h1]
    · cases h
  · cases h
abbrev okAllD (q : Sl) (k : Ts q.kt) (ls : List (T q.et)) : Prop := (ls.length : Int) ≤ 140737488351232 ∧ (∀ x ∈ ls, q.ok k x) ∧ Swo (q.lt k)
def swpD_cz (q : Sl) : Cz := ⟨q.et, .nil, swTs, fun _ (a : Int × Int) => [.int .i64 a.1, .int .i64 a.2, .slf 0, .cst (tyH q.gs q.e)], swDec q.gs q.e, swFind,
    fun _ ls (a : Int × Int) => 0 ≤ a.1 ∧ a.1 < ls.length ∧ 0 ≤ a.2 ∧ a.2 < ls.length, fun _ ls (a : Int × Int) => @swpL _ ⟨zT q.et⟩ ls a.1 a.2⟩
theorem swpD_con {P : Program} {f : Nat} {q : Sl} (h : ConZ P f (sw_cz q.et q.gs q.e)) : ConZ P f (swpD_cz q) := h
def insD_cz (q : Sl) : Cz := ⟨q.et, q.kt, tys2 tI tI, fun k (a : Int × Int) => [q.data k, .int .i64 a.1, .int .i64 a.2], decD2 q, findD,
  fun k ls (a : Int × Int) => 0 ≤ a.1 ∧ a.1 ≤ a.2 ∧ a.2 ≤ ls.length ∧ okAllD q k ls, fun k ls (a : Int × Int) => @seg _ (q.lt k) ls a.1 a.2⟩
def swrD_cz (q : Sl) : Cz := ⟨q.et, q.kt, tys3 tI tI tI, fun k (a : Int × Int × Int) => [q.data k, .int .i64 a.1, .int .i64 a.2.1, .int .i64 a.2.2], decD3 q, findD,
  fun k ls (a : Int × Int × Int) => 0 ≤ a.1 ∧ 0 ≤ a.2.1 ∧ 0 ≤ a.2.2 ∧ a.1 + a.2.2 ≤ ls.length ∧ a.2.1 + a.2.2 ≤ ls.length ∧ (a.1 + a.2.2 ≤ a.2.1 ∨ a.2.1 + a.2.2 ≤ a.1) ∧ (ls.length : Int) ≤ 140737488351232, fun k ls (a : Int × Int × Int) => @swr _ ⟨zT q.et⟩ ls a.1 a.2.1 a.2.2⟩
def rotD_cz (q : Sl) : Cz := ⟨q.et, q.kt, tys3 tI tI tI, fun k (a : Int × Int × Int) => [q.data k, .int .i64 a.1, .int .i64 a.2.1, .int .i64 a.2.2], decD3 q, findD,
  fun k ls (a : Int × Int × Int) => 0 ≤ a.1 ∧ a.1 < a.2.1 ∧ a.2.1 < a.2.2 ∧ a.2.2 ≤ ls.length ∧ (ls.length : Int) ≤ 140737488351232, fun k ls (a : Int × Int × Int) => @rotL _ ⟨zT q.et⟩ ls a.1 a.2.1 a.2.2⟩
def symPreD (q : Sl) (k : Ts q.kt) (ls : List (T q.et)) (a m b : Int) : Prop := 0 ≤ a ∧ a < m ∧ m < b ∧ b ≤ ls.length ∧ okAllD q k ls ∧ @SrtIn _ ⟨zT q.et⟩ (q.lt k) ls a m ∧ @SrtIn _ ⟨zT q.et⟩ (q.lt k) ls m b
def symD_cz (q : Sl) : Cz := ⟨q.et, q.kt, tys3 tI tI tI, fun k (a : Int × Int × Int) => [q.data k, .int .i64 a.1, .int .i64 a.2.1, .int .i64 a.2.2], decD3 q, findD,
  fun k ls (a : Int × Int × Int) => symPreD q k ls a.1 a.2.1 a.2.2, fun k ls (a : Int × Int × Int) => @seg _ (q.lt k) ls a.1 a.2.2⟩
/-- .. of fewer than n. -/
def symND_cz (q : Sl) (n : Nat) : Cz := ⟨q.et, q.kt, tys3 tI tI tI, fun k (a : Int × Int × Int) => [q.data k, .int .i64 a.1, .int .i64 a.2.1, .int .i64 a.2.2], decD3 q, findD,
  fun k ls (a : Int × Int × Int) => symPreD q k ls a.1 a.2.1 a.2.2 ∧ a.2.2 - a.1 < n, fun k ls (a : Int × Int × Int) => @seg _ (q.lt k) ls a.1 a.2.2⟩
def stbD_cz (q : Sl) : Cz := ⟨q.et, q.kt, tys1 tI, fun k (n : Int) => [q.data k, .int .i64 n], decD1 q, findD,
  fun k ls (n : Int) => n = ls.length ∧ okAllD q k ls, fun k ls (n : Int) => stab (q.lt k) ls⟩
end
end Go.Fu
