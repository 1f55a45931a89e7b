/-
  An abstract, deterministic reading of the model's memory: abstract values, an owned store, and what it means that they describe a world. Over any program.
-/
import Derived.Calls
import Derived.Alone
import Derived.Laws.World
import Derived.Laws.Cells
import Derived.KernelRfl
set_option linter.unusedVariables false
namespace Go.Vc

/-- An abstract value. 'ptr l v off': into the owned row at place l of the store, version v, at cell off. 'sl l v off len': a slice over that row. 'rop cs', 'ros len cs': into memory that no one writes any more, which reads as the cells cs. -/
inductive AVal where
  | junk
  | tt
  | ff
  | bool (b : Bool)
  | int (k : IntKind) (n : Int)
  | str (s : List UInt8)
  | nilp
  | ptr (l v off : Nat)
  | rop (cs : List AVal)
  | nils
  | sl (l v off len : Nat)
  | ros (len : Nat) (cs : List AVal)
  | agg (cs : List AVal)
  | tup (cs : List AVal)
  | fn (f : Fn) (first cap : List AVal)
  | nilf
  | map (l v : Nat)
  | nilm
  | iface (t : TypeId) (x : AVal)
  | nili
  | cst (v : Value)
  deriving Inhabited

/-- What a version stands for: nothing in memory (a nil slice), a row of cells (block, first cell, how many cells, cells an element), a map. -/
inductive Bk where
  | nil
  | real (b base cap k : Nat)
  | mapb (b : Nat)

abbrev Env := Nat → Option Bk

mutual
def Rel (E : Env) (fz : Nat → Prop) (w : World) : AVal → Value → Prop
  | .junk, _ => True
  | .tt, v => v = .bool true
  | .ff, v => v = .bool false
  | .bool b, v => v = .bool b
  | .int k n, v => v = .int k n
  | .str s, v => v = .string ⟨s.toArray⟩
  | .nilp, v => v = .pointer none
  | .ptr _ x off, v => ∃ b base cap k, E x = some (.real b base cap k) ∧ v = .pointer (some ⟨b, base + off, none⟩)
  | .rop cs, v => ∃ b off, fz b ∧ v = .pointer (some ⟨b, off, none⟩) ∧ RelC E fz w b off cs
  | .nils, v => v = .slice none 0 0
  | .sl _ x off len, v => (len = 0 ∧ ∃ a, v = .slice a 0 0) ∨
      ∃ b base cap k c, E x = some (.real b base cap k) ∧ len ≤ c ∧ off + c * k ≤ cap ∧ v = .slice (some ⟨b, base + off, none⟩) len c
  | .ros len cs, v => (len = 0 ∧ ∃ a c, v = .slice a 0 c) ∨
      ∃ b off c, fz b ∧ len ≤ c ∧ v = .slice (some ⟨b, off, none⟩) len c ∧ RelC E fz w b off cs
  | .agg cs, v => ∃ vs : List Value, v = .agg vs.toArray ∧ RelL E fz w cs vs ∧ ∀ c ∈ vs, c.oneCell' = true
  | .tup cs, v => ∃ vs : List Value, v = .tuple vs.toArray ∧ RelL E fz w cs vs
  | .fn f xs ys, v => ∃ vs us : List Value, v = .func f vs.toArray us.toArray ∧ RelL E fz w xs vs ∧ RelL E fz w ys us
  | .nilf, v => v = .nilFunc
  | .map _ x, v => ∃ b, E x = some (.mapb b) ∧ v = .map (some b)
  | .nilm, v => v = .map none
  | .iface t x, v => ∃ u, v = .iface t u ∧ Rel E fz w x u
  | .nili, v => v = .nilIface
  | .cst u, v => v = u
def RelL (E : Env) (fz : Nat → Prop) (w : World) : List AVal → List Value → Prop
  | [], vs => vs = []
  | x :: xs, vs => ∃ v us, vs = v :: us ∧ Rel E fz w x v ∧ RelL E fz w xs us
def RelC (E : Env) (fz : Nat → Prop) (w : World) (b : Nat) : Nat → List AVal → Prop
  | _, [] => True
  | off, x :: xs => (∃ c, w.cell? ⟨b, off, none⟩ = some c ∧ c.oneCell' = true ∧ Rel E fz w x c) ∧ RelC E fz w b (off + 1) xs
end

/-! ### Monotone in the environment, the frozen blocks and the world -/
theorem cell_of_heap {w w' : World} {b o : Nat} (h : w'.heap[b]? = w.heap[b]?) : w'.cell? ⟨b, o, none⟩ = w.cell? ⟨b, o, none⟩ := by
  unfold World.cell?; simp only [h]

section
variable {E E' : Env} {fz fz' : Nat → Prop} {w w' : World}
mutual
theorem Rel.mono (hE : ∀ v x, E v = some x → E' v = some x) (hf : ∀ b, fz b → fz' b) (hw : ∀ b, fz b → w'.heap[b]? = w.heap[b]?) :
    ∀ (x : AVal) {v : Value}, Rel E fz w x v → Rel E' fz' w' x v
  | .junk, _, _ => by simp [Rel]
  | .tt, _, h => by simpa [Rel] using h
  | .ff, _, h => by simpa [Rel] using h
  | .bool _, _, h => by simpa [Rel] using h
  | .int _ _, _, h => by simpa [Rel] using h
  | .str _, _, h => by simpa [Rel] using h
  | .nilp, _, h => by simpa [Rel] using h
  | .ptr _ _ _, _, h => by
    simp only [Rel] at *
    obtain ⟨b, base, cap, k, h1, h2⟩ := h
    exact ⟨b, base, cap, k, hE _ _ h1, h2⟩
  | .rop cs, _, h => by
    simp only [Rel] at *
    obtain ⟨b, off, h1, h2, h3⟩ := h
    exact ⟨b, off, hf _ h1, h2, RelC.mono hE hf hw cs (hw b h1) h3⟩
  | .nils, _, h => by simpa [Rel] using h
  | .sl _ _ _ _, _, h => by
    simp only [Rel] at *
    rcases h with h | ⟨b, base, cap, k, c, h1, h2⟩
    · exact .inl h
    · exact .inr ⟨b, base, cap, k, c, hE _ _ h1, h2⟩
  | .ros _ cs, _, h => by
    simp only [Rel] at *
    rcases h with h | ⟨b, off, c, h1, h2, h3, h4⟩
    · exact .inl h
    · exact .inr ⟨b, off, c, hf _ h1, h2, h3, RelC.mono hE hf hw cs (hw b h1) h4⟩
  | .agg cs, _, h => by
    simp only [Rel] at *
    obtain ⟨vs, h1, h2, h3⟩ := h
    exact ⟨vs, h1, RelL.mono hE hf hw cs h2, h3⟩
  | .tup cs, _, h => by
    simp only [Rel] at *
    obtain ⟨vs, h1, h2⟩ := h
    exact ⟨vs, h1, RelL.mono hE hf hw cs h2⟩
  | .fn _ xs ys, _, h => by
    simp only [Rel] at *
    obtain ⟨vs, us, h1, h2, h3⟩ := h
    exact ⟨vs, us, h1, RelL.mono hE hf hw xs h2, RelL.mono hE hf hw ys h3⟩
  | .nilf, _, h => by simpa [Rel] using h
  | .map _ _, _, h => by
    simp only [Rel] at *
    obtain ⟨b, h1, h2⟩ := h
    exact ⟨b, hE _ _ h1, h2⟩
  | .nilm, _, h => by simpa [Rel] using h
  | .iface _ x, _, h => by
    simp only [Rel] at *
    obtain ⟨u, h1, h2⟩ := h
    exact ⟨u, h1, Rel.mono hE hf hw x h2⟩
  | .nili, _, h => by simpa [Rel] using h
  | .cst _, _, h => by simpa [Rel] using h
theorem RelL.mono (hE : ∀ v x, E v = some x → E' v = some x) (hf : ∀ b, fz b → fz' b) (hw : ∀ b, fz b → w'.heap[b]? = w.heap[b]?) :
    ∀ (xs : List AVal) {vs : List Value}, RelL E fz w xs vs → RelL E' fz' w' xs vs
  | [], _, h => by simpa [RelL] using h
  | x :: xs, _, h => by
    simp only [RelL] at *
    obtain ⟨v, us, h1, h2, h3⟩ := h
    exact ⟨v, us, h1, Rel.mono hE hf hw x h2, RelL.mono hE hf hw xs h3⟩
theorem RelC.mono (hE : ∀ v x, E v = some x → E' v = some x) (hf : ∀ b, fz b → fz' b) (hw : ∀ b, fz b → w'.heap[b]? = w.heap[b]?) {b : Nat} :
    ∀ (xs : List AVal) {off : Nat}, w'.heap[b]? = w.heap[b]? → RelC E fz w b off xs → RelC E' fz' w' b off xs
  | [], _, _, _ => by simp [RelC]
  | x :: xs, off, hb, h => by
    simp only [RelC] at *
    obtain ⟨⟨c, h1, h2, h3⟩, h4⟩ := h
    exact ⟨⟨c, by rw [cell_of_heap hb]; exact h1, h2, Rel.mono hE hf hw x h3⟩, RelC.mono hE hf hw xs hb h4⟩
end
end

section
variable {E : Env} {fz : Nat → Prop} {w : World}
theorem RelL.length : ∀ {xs : List AVal} {vs : List Value}, RelL E fz w xs vs → vs.length = xs.length
  | [], _, h => by simp only [RelL] at h; simp [h]
  | x :: xs, _, h => by
    simp only [RelL] at h
    obtain ⟨v, us, rfl, _, h3⟩ := h
    simp [RelL.length h3]
theorem RelL.get : ∀ {xs : List AVal} {vs : List Value}, RelL E fz w xs vs → ∀ {i : Nat} {x : AVal}, xs[i]? = some x → ∃ v, vs[i]? = some v ∧ Rel E fz w x v
  | [], _, _, i, x, hx => by simp at hx
  | y :: xs, _, h, i, x, hx => by
    simp only [RelL] at h
    obtain ⟨v, us, rfl, h2, h3⟩ := h
    cases i with
    | zero => simp at hx; subst hx; exact ⟨v, by simp, h2⟩
    | succ i => simp at hx; simpa using RelL.get h3 hx
theorem RelL.mk : ∀ {xs : List AVal} {vs : List Value}, vs.length = xs.length → (∀ (i : Nat) x v, xs[i]? = some x → vs[i]? = some v → Rel E fz w x v) → RelL E fz w xs vs
  | [], vs, h, _ => by simp only [RelL]; exact List.length_eq_zero_iff.1 h
  | x :: xs, [], h, _ => by simp at h
  | x :: xs, v :: vs, h, hr => by
    simp only [RelL]
    refine ⟨v, vs, rfl, hr 0 x v rfl rfl, RelL.mk (by simpa using h) fun i x v hx hv => hr (i + 1) x v (by simpa using hx) (by simpa using hv)⟩
theorem RelL.append {xs ys : List AVal} {vs us : List Value} (h : RelL E fz w xs vs) (h' : RelL E fz w ys us) : RelL E fz w (xs ++ ys) (vs ++ us) := by
  have hl := h.length
  refine RelL.mk (by simp [h.length, h'.length]) fun i x v hx hv => ?_
  by_cases hi : i < xs.length
  · rw [List.getElem?_append_left hi] at hx
    rw [List.getElem?_append_left (by omega)] at hv
    obtain ⟨v', h1, h2⟩ := h.get hx
    rw [hv] at h1; cases h1; exact h2
  · rw [List.getElem?_append_right (by omega)] at hx
    rw [List.getElem?_append_right (by omega), hl] at hv
    obtain ⟨v', h1, h2⟩ := h'.get hx
    rw [hv] at h1; cases h1; exact h2
theorem RelL.drop {xs : List AVal} {vs : List Value} (n : Nat) (h : RelL E fz w xs vs) : RelL E fz w (xs.drop n) (vs.drop n) := by
  refine RelL.mk (by simp [h.length]) fun i x v hx hv => ?_
  rw [List.getElem?_drop] at hx hv
  obtain ⟨v', h1, h2⟩ := h.get hx
  rw [hv] at h1; cases h1; exact h2
theorem RelL.take {xs : List AVal} {vs : List Value} (n : Nat) (h : RelL E fz w xs vs) : RelL E fz w (xs.take n) (vs.take n) := by
  refine RelL.mk (by simp [h.length]) fun i x v hx hv => ?_
  rw [List.getElem?_take] at hx hv
  split at hx
  · rename_i hi
    rw [if_pos hi] at hv
    obtain ⟨v', h1, h2⟩ := h.get hx
    rw [hv] at h1; cases h1; exact h2
  · cases hx
theorem RelC.get {b : Nat} : ∀ {xs : List AVal} {off : Nat}, RelC E fz w b off xs → ∀ {i : Nat} {x : AVal}, xs[i]? = some x →
    ∃ c, w.cell? ⟨b, off + i, none⟩ = some c ∧ c.oneCell' = true ∧ Rel E fz w x c
  | [], _, _, i, x, hx => by simp at hx
  | y :: xs, off, h, i, x, hx => by
    simp only [RelC] at h
    cases i with
    | zero => simp at hx; subst hx; exact h.1
    | succ i =>
      simp at hx
      have := RelC.get h.2 hx
      rwa [show off + 1 + i = off + (i + 1) by omega] at this
theorem RelC.mk {b : Nat} : ∀ {xs : List AVal} {off : Nat}, (∀ (i : Nat) x, xs[i]? = some x → ∃ c, w.cell? ⟨b, off + i, none⟩ = some c ∧ c.oneCell' = true ∧ Rel E fz w x c) →
    RelC E fz w b off xs
  | [], _, _ => by simp [RelC]
  | x :: xs, off, h => by
    simp only [RelC]
    refine ⟨h 0 x rfl, RelC.mk fun i y hy => ?_⟩
    have := h (i + 1) y (by simpa using hy)
    rwa [show off + (i + 1) = off + 1 + i by omega] at this
theorem RelC.drop {b off : Nat} {xs : List AVal} (n : Nat) (h : RelC E fz w b off xs) : RelC E fz w b (off + n) (xs.drop n) :=
  RelC.mk fun i x hx => by
    rw [List.getElem?_drop] at hx
    have := h.get hx
    rwa [show off + (n + i) = off + n + i by omega] at this
theorem RelC.take {b off : Nat} {xs : List AVal} (n : Nat) (h : RelC E fz w b off xs) : RelC E fz w b off (xs.take n) :=
  RelC.mk fun i x hx => by
    rw [List.getElem?_take] at hx
    split at hx
    · exact h.get hx
    · cases hx
theorem RelC.append {b off : Nat} {xs ys : List AVal} (h : RelC E fz w b off xs) (h' : RelC E fz w b (off + xs.length) ys) : RelC E fz w b off (xs ++ ys) :=
  RelC.mk fun i x hx => by
    by_cases hi : i < xs.length
    · rw [List.getElem?_append_left hi] at hx; exact h.get hx
    · rw [List.getElem?_append_right (by omega)] at hx
      have := h'.get hx
      rwa [show off + xs.length + (i - xs.length) = off + i by omega] at this
/-- The cells that are read, as a list of values. -/
theorem RelC.read {b off : Nat} {xs : List AVal} (h : RelC E fz w b off xs) : ∃ vs : List Value, RelL E fz w xs vs ∧ (∀ c ∈ vs, c.oneCell' = true) ∧
    ∀ (j : Nat) v, vs[j]? = some v → w.cell? ⟨b, off + j, none⟩ = some v := by
  induction xs generalizing off with
  | nil => exact ⟨[], by simp [RelL], by simp, by simp⟩
  | cons x xs ih =>
    simp only [RelC] at h
    obtain ⟨⟨c, h1, h2, h3⟩, h4⟩ := h
    obtain ⟨vs, g1, g2, g3⟩ := ih h4
    refine ⟨c :: vs, by simp only [RelL]; exact ⟨c, vs, rfl, h3, g1⟩, by simpa [h2] using g2, fun j v hv => ?_⟩
    cases j with
    | zero => simp at hv; subst hv; simpa using h1
    | succ j =>
      have := g3 j v (by simpa using hv)
      rwa [show off + 1 + j = off + (j + 1) by omega] at this
end

end Go.Vc
