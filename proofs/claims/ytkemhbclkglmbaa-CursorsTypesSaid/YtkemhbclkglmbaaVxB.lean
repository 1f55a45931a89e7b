/-
  The owned store, when it describes a world, what may change (Ext), and the one general step of it (St.upd).
-/
import Derived.Test.YtkemhbclkglmbaaVxA
set_option linter.unusedVariables false
namespace Go.Vc

/-- An owned object: gone; a row of cells (version, cells an element, cells); a map (version, entries in the order of the model's list). -/
inductive Ob where
  | dead
  | row (v k : Nat) (cs : List AVal)
  | mapo (v : Nat) (es : List (AVal × AVal))
  deriving Inhabited

abbrev Store := List Ob

def obBlock (E : Env) : Ob → Option Nat
  | .dead => none
  | .row v _ _ => match E v with | some (.real b _ _ _) => some b | _ => none
  | .mapo v _ => match E v with | some (.mapb b) => some b | _ => none

def OwnAt (E : Env) (S : Store) (l b : Nat) : Prop := ∃ o, S[l]? = some o ∧ obBlock E o = some b
def Own (E : Env) (S : Store) (b : Nat) : Prop := ∃ l, OwnAt E S l b

inductive RelE (E : Env) (fz : Nat → Prop) (w : World) : List (AVal × AVal) → List MapEntry → Prop
  | nil : RelE E fz w [] []
  | cons {k v : AVal} {m : MapEntry} {es : List (AVal × AVal)} {ms : List MapEntry} (hk : Rel E fz w k m.key) (hv : Rel E fz w v m.val) (h : RelE E fz w es ms) :
      RelE E fz w ((k, v) :: es) (m :: ms)

theorem RelE.mono {E E' : Env} {fz fz' : Nat → Prop} {w w' : World} (hE : ∀ v x, E v = some x → E' v = some x) (hf : ∀ b, fz b → fz' b) (hw : ∀ b, fz b → w'.heap[b]? = w.heap[b]?)
    {es : List (AVal × AVal)} {ms : List MapEntry} (h : RelE E fz w es ms) : RelE E' fz' w' es ms := by
  induction h with
  | nil => exact .nil
  | cons hk hv _ ih => exact .cons (hk.mono hE hf hw) (hv.mono hE hf hw) ih

def ObOk (E : Env) (fz : Nat → Prop) (w : World) : Ob → Prop
  | .dead => True
  | .row v k cs => (E v = some .nil ∧ cs = []) ∨ ∃ b base cap arr T lo hi, E v = some (.real b base cap k) ∧ w.heap[b]? = some (.cells arr T (lo, hi)) ∧
      base + cap ≤ arr.size ∧ cs.length ≤ cap ∧ (lo = hi ∨ arr.size ≤ lo) ∧ RelC E fz w b base cs ∧ ¬ fz b
  | .mapo v es => ∃ b entries clock, E v = some (.mapb b) ∧ w.heap[b]? = some (.map entries clock) ∧ RelE E fz w es entries.toList ∧ ¬ fz b

structure St (E : Env) (fz : Nat → Prop) (S : Store) (w : World) : Prop where
  ok : ∀ (l : Nat) o, S[l]? = some o → ObOk E fz w o
  sep : ∀ l l' b, OwnAt E S l b → OwnAt E S l' b → l = l'
  fzlt : ∀ b, fz b → b < w.heap.size
  fresh : ∃ n, ∀ v, n ≤ v → E v = none

/-- The tape is the same, and no draw is undone. -/
abbrev Tp (w w' : World) : Prop := w'.tape = w.tape ∧ w.drawn ≤ w'.drawn
theorem Tp.refl {w : World} : Tp w w := ⟨rfl, Nat.le_refl _⟩
theorem Tp.trans {w w1 w2 : World} (h : Tp w w1) (h' : Tp w1 w2) : Tp w w2 := ⟨h'.1.trans h.1, Nat.le_trans h.2 h'.2⟩

structure Ext (E : Env) (fz : Nat → Prop) (S : Store) (w : World) (E' : Env) (fz' : Nat → Prop) (S' : Store) (w' : World) : Prop where
  env : ∀ v x, E v = some x → E' v = some x
  frz : ∀ b, fz b → fz' b
  fznew : ∀ b, fz' b → fz b ∨ Own E S b ∨ w.heap.size ≤ b
  keep : ∀ b, b < w.heap.size → ¬ Own E S b → w'.heap[b]? = w.heap[b]?
  own : ∀ b, Own E' S' b → Own E S b ∨ w.heap.size ≤ b
  size : w.heap.size ≤ w'.heap.size
  os : w'.os = w.os
  output : w'.output = w.output
  tape : Tp w w'

theorem Ext.refl {E : Env} {fz : Nat → Prop} {S : Store} {w : World} : Ext E fz S w E fz S w :=
  ⟨fun _ _ h => h, fun _ h => h, fun _ h => .inl h, fun _ _ _ => rfl, fun _ h => .inl h, Nat.le_refl _, rfl, rfl, Tp.refl⟩

theorem Ext.trans {E E1 E2 : Env} {fz fz1 fz2 : Nat → Prop} {S S1 S2 : Store} {w w1 w2 : World} (h : Ext E fz S w E1 fz1 S1 w1) (h' : Ext E1 fz1 S1 w1 E2 fz2 S2 w2) :
    Ext E fz S w E2 fz2 S2 w2 where
  env v x hx := h'.env v x (h.env v x hx)
  frz b hb := h'.frz b (h.frz b hb)
  fznew b hb := by
    rcases h'.fznew b hb with h1 | h1 | h1
    · exact h.fznew b h1
    · exact .inr (h.own b h1)
    · exact .inr (.inr (Nat.le_trans h.size h1))
  keep b hb hn := by
    rw [h'.keep b (Nat.lt_of_lt_of_le hb h.size) (fun ho => ?_), h.keep b hb hn]
    rcases h.own b ho with h1 | h1
    · exact hn h1
    · omega
  own b hb := by
    rcases h'.own b hb with h1 | h1
    · exact h.own b h1
    · exact .inr (Nat.le_trans h.size h1)
  size := Nat.le_trans h.size h'.size
  os := h'.os.trans h.os
  output := h'.output.trans h.output
  tape := h.tape.trans h'.tape

theorem ObOk.lt {E : Env} {fz : Nat → Prop} {w : World} {o : Ob} {b : Nat} (h : ObOk E fz w o) (hb : obBlock E o = some b) : b < w.heap.size ∧ ¬ fz b := by
  have lt : ∀ {x : Obj}, w.heap[b]? = some x → b < w.heap.size := fun {x} hx => by
    rcases Nat.lt_or_ge b w.heap.size with h | h
    · exact h
    · simp [Array.getElem?_eq_none h] at hx
  cases o with
  | dead => simp [obBlock] at hb
  | row v k cs =>
    rcases h with ⟨h1, _⟩ | ⟨b', base, cap, arr, T, lo, hi, h1, h2, _, _, _, _, h3⟩
    · simp [obBlock, h1] at hb
    · simp [obBlock, h1] at hb; subst hb; exact ⟨lt h2, h3⟩
  | mapo v es =>
    obtain ⟨b', en, cl, h1, h2, _, h3⟩ := h
    simp [obBlock, h1] at hb; subst hb; exact ⟨lt h2, h3⟩

theorem ObOk.block {E E' : Env} {fz : Nat → Prop} {w : World} {o : Ob} (h : ObOk E fz w o) (hE : ∀ v x, E v = some x → E' v = some x) : obBlock E' o = obBlock E o := by
  cases o with
  | dead => rfl
  | row v k cs =>
    rcases h with ⟨h1, _⟩ | ⟨b', base, cap, arr, T, lo, hi, h1, _⟩
    · simp [obBlock, h1, hE _ _ h1]
    · simp [obBlock, h1, hE _ _ h1]
  | mapo v es =>
    obtain ⟨b', en, cl, h1, _⟩ := h
    simp [obBlock, h1, hE _ _ h1]

theorem ObOk.mono {E E' : Env} {fz fz' : Nat → Prop} {w w' : World} {o : Ob} (h : ObOk E fz w o) (hE : ∀ v x, E v = some x → E' v = some x) (hf : ∀ b, fz b → fz' b)
    (hw : ∀ b, fz b → w'.heap[b]? = w.heap[b]?) (hb : ∀ b, obBlock E o = some b → w'.heap[b]? = w.heap[b]? ∧ ¬ fz' b) : ObOk E' fz' w' o := by
  cases o with
  | dead => trivial
  | row v k cs =>
    rcases h with ⟨h1, h0⟩ | ⟨b, base, cap, arr, T, lo, hi, h1, h2, h3, h4, h5, h6, h7⟩
    · exact .inl ⟨hE _ _ h1, h0⟩
    · have hbb := hb b (by simp [obBlock, h1])
      exact .inr ⟨b, base, cap, arr, T, lo, hi, hE _ _ h1, by rw [hbb.1]; exact h2, h3, h4, h5, RelC.mono hE hf hw cs hbb.1 h6, hbb.2⟩
  | mapo v es =>
    obtain ⟨b, en, cl, h1, h2, h3, h4⟩ := h
    have hbb := hb b (by simp [obBlock, h1])
    exact ⟨b, en, cl, hE _ _ h1, by rw [hbb.1]; exact h2, h3.mono hE hf hw, hbb.2⟩

section
variable {E E' : Env} {fz fz' : Nat → Prop} {S S' : Store} {w w' : World}

theorem St.own_lt (st : St E fz S w) {l b : Nat} (h : OwnAt E S l b) : b < w.heap.size ∧ ¬ fz b := by
  obtain ⟨o, h1, h2⟩ := h
  exact (st.ok l o h1).lt h2

theorem St.fz_keep (st : St E fz S w) (h : Ext E fz S w E' fz' S' w') : ∀ b, fz b → w'.heap[b]? = w.heap[b]? :=
  fun b hb => h.keep b (st.fzlt b hb) fun ⟨_, ho⟩ => (st.own_lt ho).2 hb

theorem St.rel (st : St E fz S w) (h : Ext E fz S w E' fz' S' w') {x : AVal} {v : Value} (hr : Rel E fz w x v) : Rel E' fz' w' x v :=
  hr.mono h.env h.frz (st.fz_keep h)
theorem St.relL (st : St E fz S w) (h : Ext E fz S w E' fz' S' w') {x : List AVal} {v : List Value} (hr : RelL E fz w x v) : RelL E' fz' w' x v :=
  hr.mono h.env h.frz (st.fz_keep h)

/-- The one step: the object at place l is put in (or a place is added), nothing else that was there is touched. -/
theorem St.upd (st : St E fz S w) (l : Nat) (o : Ob) (hE : ∀ v x, E v = some x → E' v = some x) (hn : ∃ n, ∀ v, n ≤ v → E' v = none)
    (hS : ∀ l' : Nat, l' ≠ l → S'[l']? = S[l']?) (hl : S'[l]? = some o) (hsz : w.heap.size ≤ w'.heap.size)
    (hw : ∀ b, b < w.heap.size → ¬ OwnAt E S l b → w'.heap[b]? = w.heap[b]?)
    (hb : ∀ b, obBlock E' o = some b → OwnAt E S l b ∨ w.heap.size ≤ b) (ho : ObOk E' fz w' o)
    (h1 : w'.os = w.os) (h2 : w'.output = w.output) (h3 : Tp w w') : St E' fz S' w' ∧ Ext E fz S w E' fz S' w' := by
  have keep : ∀ b, fz b → w'.heap[b]? = w.heap[b]? := fun b hb => hw b (st.fzlt b hb) fun ho => (st.own_lt ho).2 hb
  have back : ∀ (l' b : Nat), l' ≠ l → OwnAt E' S' l' b → OwnAt E S l' b := fun l' b hne ⟨o', g1, g2⟩ => by
    rw [hS l' hne] at g1
    exact ⟨o', g1, by rw [← (st.ok l' o' g1).block hE]; exact g2⟩
  refine ⟨⟨fun l' o' hl' => ?_, fun l' l'' b g1 g2 => ?_, fun b hb => Nat.lt_of_lt_of_le (st.fzlt b hb) hsz, hn⟩,
    ⟨hE, fun _ h => h, fun _ h => .inl h, fun b hb hno => hw b hb fun hh => hno ⟨l, hh⟩, fun b ⟨l', g⟩ => ?_, hsz, h1, h2, h3⟩⟩
  · by_cases hne : l' = l
    · subst hne; rw [hl] at hl'; cases hl'; exact ho
    · rw [hS l' hne] at hl'
      refine (st.ok l' o' hl').mono hE (fun _ h => h) keep fun b hb' => ⟨hw b (st.own_lt ⟨o', hl', hb'⟩).1 fun hh => hne (st.sep _ _ _ ⟨o', hl', hb'⟩ hh), (st.own_lt ⟨o', hl', hb'⟩).2⟩
  · have fromL : ∀ (b l'' : Nat), l'' ≠ l → OwnAt E' S' l b → OwnAt E' S' l'' b → False := fun b l'' hne g1 g2 => by
      obtain ⟨o', q1, q2⟩ := g1
      rw [hl] at q1; cases q1
      have g2' := back l'' b hne g2
      rcases hb b q2 with hh | hh
      · exact hne (st.sep _ _ _ g2' hh)
      · have := (st.own_lt g2').1; omega
    by_cases e1 : l' = l
    · by_cases e2 : l'' = l
      · rw [e1, e2]
      · subst e1; exact (fromL b l'' e2 g1 g2).elim
    · by_cases e2 : l'' = l
      · subst e2; exact (fromL b l' e1 g2 g1).elim
      · exact st.sep _ _ _ (back l' b e1 g1) (back l'' b e2 g2)
  · by_cases hne : l' = l
    · subst hne
      obtain ⟨o', q1, q2⟩ := g
      rw [hl] at q1; cases q1
      rcases hb b q2 with hh | hh
      · exact .inl ⟨_, hh⟩
      · exact .inr hh
    · exact .inl ⟨l', back l' b hne g⟩

/-- A draw, or anything that leaves memory alone. -/
theorem St.same (st : St E fz S w) (hh : w'.heap = w.heap) (h1 : w'.os = w.os) (h2 : w'.output = w.output) (h3 : Tp w w') : St E fz S w' ∧ Ext E fz S w E fz S w' := by
  have ht : ∀ b : Nat, w'.heap[b]? = w.heap[b]? := fun b => by rw [hh]
  refine ⟨⟨fun l o hl => (st.ok l o hl).mono (fun _ _ h => h) (fun _ h => h) (fun b _ => ht b) fun b hb => ⟨ht b, (st.own_lt ⟨o, hl, hb⟩).2⟩, st.sep, fun b hb => by rw [hh]; exact st.fzlt b hb, st.fresh⟩,
    ⟨fun _ _ h => h, fun _ h => h, fun _ h => .inl h, fun b _ _ => ht b, fun _ h => .inl h, by rw [hh]; exact Nat.le_refl _, h1, h2, h3⟩⟩

end
end Go.Vc
