/-
  Contracts in use: a call with a store around it, what is let go or frozen at the end, owned arguments lent to a reader.
-/
import Derived.Test.YtkemhbclkglmbaaVxP
set_option linter.unusedVariables false
set_option linter.unusedSimpArgs false
namespace Go.Vc

def LeV (x y : AVal) : Prop := ∀ E fz w v, Rel E fz w x v → Rel E fz w y v
inductive LeL : List AVal → List AVal → Prop
  | nil : LeL [] []
  | cons {x y : AVal} {xs ys : List AVal} (h : LeV x y) (hs : LeL xs ys) : LeL (x :: xs) (y :: ys)
inductive LeO : Ob → Ob → Prop
  | refl (o : Ob) : LeO o o
  | dead (o : Ob) : LeO o .dead
  | row {v k : Nat} {cs ds : List AVal} (h : LeL cs ds) : LeO (.row v k cs) (.row v k ds)
  | trunc {v k : Nat} {cs : List AVal} (n : Nat) : LeO (.row v k cs) (.row v k (cs.take n))

theorem LeV.refl (x : AVal) : LeV x x := fun _ _ _ _ h => h
theorem LeV.sl {l l' v o n : Nat} : LeV (.sl l v o n) (.sl l' v o n) := fun _ _ _ _ h => by simpa [Rel] using h
theorem LeV.ptr {l l' v o : Nat} : LeV (.ptr l v o) (.ptr l' v o) := fun _ _ _ _ h => by simpa [Rel] using h
theorem LeV.map {l l' v : Nat} : LeV (.map l v) (.map l' v) := fun _ _ _ _ h => by simpa [Rel] using h
theorem LeV.junk {x : AVal} : LeV x .junk := fun _ _ _ _ h => by simp [Rel]
theorem LeL.refl : ∀ (xs : List AVal), LeL xs xs
  | [] => .nil
  | x :: xs => .cons (.refl x) (LeL.refl xs)
theorem LeL.rel {xs ys : List AVal} (h : LeL xs ys) {E : Env} {fz : Nat → Prop} {w : World} {vs : List Value} (hr : RelL E fz w xs vs) : RelL E fz w ys vs := by
  induction h generalizing vs with
  | nil => exact hr
  | cons h _ ih =>
    simp only [RelL] at *
    obtain ⟨v, us, rfl, h1, h2⟩ := hr
    exact ⟨v, us, rfl, h _ _ _ _ h1, ih h2⟩
theorem LeL.relC {xs ys : List AVal} (h : LeL xs ys) {E : Env} {fz : Nat → Prop} {w : World} {b off : Nat} (hr : RelC E fz w b off xs) : RelC E fz w b off ys := by
  induction h generalizing off with
  | nil => exact hr
  | cons h _ ih =>
    simp only [RelC] at *
    obtain ⟨⟨c, h1, h2, h3⟩, h4⟩ := hr
    exact ⟨⟨c, h1, h2, h _ _ _ _ h3⟩, ih h4⟩
theorem LeL.length {xs ys : List AVal} (h : LeL xs ys) : ys.length = xs.length := by
  induction h with
  | nil => rfl
  | cons _ _ ih => simp [ih]
theorem LeV.agg {xs ys : List AVal} (h : LeL xs ys) : LeV (.agg xs) (.agg ys) := fun _ _ _ _ hr => by
  simp only [Rel] at *
  obtain ⟨vs, h1, h2, h3⟩ := hr
  exact ⟨vs, h1, h.rel h2, h3⟩
theorem LeV.tup {xs ys : List AVal} (h : LeL xs ys) : LeV (.tup xs) (.tup ys) := fun _ _ _ _ hr => by
  simp only [Rel] at *
  obtain ⟨vs, h1, h2⟩ := hr
  exact ⟨vs, h1, h.rel h2⟩

theorem LeO.ok {o o' : Ob} (h : LeO o o') {E : Env} {fz : Nat → Prop} {w : World} (hr : ObOk E fz w o) : ObOk E fz w o' := by
  cases h with
  | refl => exact hr
  | dead => trivial
  | row h =>
    rcases hr with ⟨h1, h0⟩ | ⟨b, base, cap, arr, T, lo, hi, h1, h2, h3, h4, h5, h6, h7⟩
    · exact .inl ⟨h1, by have := h.length; subst h0; exact List.length_eq_zero_iff.1 this⟩
    · exact .inr ⟨b, base, cap, arr, T, lo, hi, h1, h2, h3, by rw [h.length]; exact h4, h5, h.relC h6, h7⟩
  | trunc n =>
    rcases hr with ⟨h1, h0⟩ | ⟨b, base, cap, arr, T, lo, hi, h1, h2, h3, h4, h5, h6, h7⟩
    · exact .inl ⟨h1, by subst h0; simp⟩
    · exact .inr ⟨b, base, cap, arr, T, lo, hi, h1, h2, h3, by simp only [List.length_take]; omega, h5, h6.take n, h7⟩
theorem LeO.block {o o' : Ob} (h : LeO o o') {E : Env} {b : Nat} (hb : obBlock E o' = some b) : obBlock E o = some b := by
  cases h with
  | refl => exact hb
  | dead => simp [obBlock] at hb
  | row h => exact hb
  | trunc n => exact hb

/-- A choice among the objects: object l of the choice is object φ l, read more loosely. -/
structure Sub (φ : Nat → Nat) (S' S : Store) : Prop where
  inj : ∀ l l', l < S'.length → l' < S'.length → φ l = φ l' → l = l'
  at_ : ∀ (l : Nat) o, S'[l]? = some o → ∃ o0, S[φ l]? = some o0 ∧ LeO o0 o

theorem Sub.own {φ : Nat → Nat} {S' S : Store} (h : Sub φ S' S) {E : Env} {l b : Nat} (ho : OwnAt E S' l b) : OwnAt E S (φ l) b ∧ l < S'.length := by
  obtain ⟨o, h1, h2⟩ := ho
  obtain ⟨o0, g1, g2⟩ := h.at_ l o h1
  exact ⟨⟨o0, g1, g2.block h2⟩, (List.getElem?_eq_some_iff.1 h1).1⟩

theorem Sub.nil {φ : Nat → Nat} {S : Store} : Sub φ [] S := ⟨fun l l' h => absurd h (Nat.not_lt_zero _), fun l o h => by simp at h⟩
theorem Sub.refl {S : Store} : Sub id S S := ⟨fun l l' _ _ h => h, fun l o h => ⟨o, h, .refl o⟩⟩

section
variable {P : Program} {f : FuncId} {args : List AVal}

theorem St.choose {E : Env} {fz : Nat → Prop} {S S' : Store} {w : World} {φ : Nat → Nat} (st : St E fz S w) (h : Sub φ S' S) : St E fz S' w where
  ok l o hl := by
    obtain ⟨o0, g1, g2⟩ := h.at_ l o hl
    exact g2.ok (st.ok _ _ g1)
  sep l l' b h1 h2 := by
    obtain ⟨g1, i1⟩ := h.own h1
    obtain ⟨g2, i2⟩ := h.own h2
    exact h.inj l l' i1 i2 (st.sep _ _ _ g1 g2)
  fzlt := st.fzlt
  fresh := st.fresh

/-- At the end: what is let go, what is numbered anew. -/
theorem ACalls.weak {S : Store} {R K : AVal → Store → Prop} (h : ACalls P f args S R)
    (hK : ∀ r S', R r S' → ∃ r' φ S'', LeV r r' ∧ Sub φ S'' S' ∧ K r' S'') : ACalls P f args S K := by
  refine ⟨fun E fz w vals st hrel => (h.out E fz w vals st hrel).mono fun e w' ⟨r, S', v, E', fz', h1, h2, h3, h4, h5⟩ => ?_⟩
  · obtain ⟨r', φ, S'', g1, g2, g3⟩ := hK r S' h5
    exact ⟨r', S'', v, E', fz', h1, ⟨h2.env, h2.frz, h2.fznew, h2.keep, fun b ⟨l, hb⟩ => h2.own b ⟨_, (g2.own hb).1⟩, h2.size, h2.os, h2.output, h2.tape⟩, h3.choose g2, g1 _ _ _ _ h4, g3⟩

/-- A contract that owns nothing at its start, used where a store stands. -/
theorem ACalls.frame0 {S : Store} {R K : AVal → Store → Prop} (h : ACalls P f args [] R)
    (hK : ∀ r S', R r S' → ∃ r' φ S'', LeV r r' ∧ Sub φ S'' S' ∧ K r' (S ++ S'')) : ACalls P f args S K := by
  refine ⟨fun E fz w vals st hrel => ?_⟩
  have st0 : St E fz [] w := ⟨fun l o h => by simp at h, fun l l' b ⟨o, h, _⟩ => by simp at h, st.fzlt, st.fresh⟩
  have no : ∀ b, ¬ Own E [] b := fun b ⟨l, o, h, _⟩ => by simp at h
  refine (h.out E fz w vals st0 hrel).mono fun e w' ⟨r, S', v, E', fz', h1, h2, h3, h4, h5⟩ => ?_
  obtain ⟨r', φ, S'', g1, g2, g3⟩ := hK r S' h5
  have st2 := h3.choose g2
  have kp : ∀ l b, OwnAt E S l b → w'.heap[b]? = w.heap[b]? ∧ ¬ fz' b := fun l b ho => by
    have hlt := st.own_lt ho
    refine ⟨h2.keep b hlt.1 (no b), fun hf => ?_⟩
    rcases h2.fznew b hf with q | q | q
    · exact hlt.2 q
    · exact no b q
    · omega
  have fk : ∀ b, fz b → w'.heap[b]? = w.heap[b]? := fun b hb => h2.keep b (st.fzlt b hb) (no b)
  have new : ∀ l b, OwnAt E' S'' l b → w.heap.size ≤ b := fun l b ho => by
    rcases h2.own b ⟨_, (g2.own ho).1⟩ with q | q
    · exact absurd q (no b)
    · exact q
  have split : ∀ l b, OwnAt E' (S ++ S'') l b → (l < S.length ∧ OwnAt E S l b) ∨ (S.length ≤ l ∧ OwnAt E' S'' (l - S.length) b) := fun l b ⟨o, q1, q2⟩ => by
    by_cases hl : l < S.length
    · rw [List.getElem?_append_left hl] at q1
      exact .inl ⟨hl, o, q1, by rw [← (st.ok l o q1).block h2.env]; exact q2⟩
    · rw [List.getElem?_append_right (by omega)] at q1
      exact .inr ⟨by omega, o, q1, q2⟩
  refine ⟨r', S ++ S'', v, E', fz', h1, ⟨h2.env, h2.frz, fun b hb => ?_, fun b hb hn => h2.keep b hb (no b), fun b ⟨l, hb⟩ => ?_, h2.size, h2.os, h2.output, h2.tape⟩, ⟨fun l o hl => ?_, fun l l' b q1 q2 => ?_, h3.fzlt, h3.fresh⟩, g1 _ _ _ _ h4, g3⟩
  · rcases h2.fznew b hb with q | q | q
    · exact .inl q
    · exact absurd q (no b)
    · exact .inr (.inr q)
  · rcases split l b hb with ⟨_, q⟩ | ⟨_, q⟩
    · exact .inl ⟨l, q⟩
    · exact .inr (new _ _ q)
  · by_cases hlt : l < S.length
    · rw [List.getElem?_append_left hlt] at hl
      exact (st.ok l o hl).mono h2.env h2.frz fk fun b hb => kp l b ⟨o, hl, hb⟩
    · rw [List.getElem?_append_right (by omega)] at hl
      exact st2.ok _ _ hl
  · rcases split l b q1 with ⟨a1, a2⟩ | ⟨a1, a2⟩ <;> rcases split l' b q2 with ⟨b1, b2⟩ | ⟨b1, b2⟩
    · exact st.sep _ _ _ a2 b2
    · have := (st.own_lt a2).1; have := new _ _ b2; omega
    · have := (st.own_lt b2).1; have := new _ _ a2; omega
    · have := st2.sep _ _ _ a2 b2; omega

/-- A result that hangs on no store, everything else let go. -/
theorem ACalls.use {S : Store} {Q : AVal → Prop} {K : AVal → Store → Prop} (h : ACalls P f args [] (fun r _ => Q r)) (hK : ∀ r, Q r → K r S) : ACalls P f args S K :=
  h.frame0 fun r S' q => ⟨r, id, [], .refl r, .nil, by rw [List.append_nil]; exact hK r q⟩

/-- The same in a region whose order is open: the answer is told ahead. -/
theorem ACalls.det {S : Store} {r0 : AVal} (h : ACalls P f args [] (fun r _ => r = r0)) : ACalls P f args S (fun r S' => r = r0 ∧ S' = S) :=
  h.use fun r e => ⟨e, rfl⟩

/-- One row comes out. -/
theorem ACalls.use1 {S : Store} {n k : Nat} {Q : List AVal → Prop} {K : AVal → Store → Prop} (h : ACalls P f args [] (fun r S' => ∃ v cs, r = .sl 0 v 0 n ∧ S' = [.row v k cs] ∧ Q cs))
    (hK : ∀ v cs, Q cs → K (.sl S.length v 0 n) (S ++ [.row v k cs])) : ACalls P f args S K :=
  h.frame0 fun r S' ⟨v, cs, e1, e2, q⟩ => by
    subst e1; subst e2
    exact ⟨.sl S.length v 0 n, id, _, .sl, .refl, hK v cs q⟩

/-! ### Frozen at the end; lent -/
/-- The value as it reads once what is owned is written no more. -/
def deref (S : Store) : Nat → AVal → AVal
  | 0, x => x
  | n + 1, .sl l v off len => match S[l]? with
    | some (.row v' _ cs) => if v' = v then .ros len ((cs.drop off).map (deref S n)) else .sl l v off len
    | _ => .sl l v off len
  | n + 1, .ptr l v off => match S[l]? with
    | some (.row v' _ cs) => if v' = v then .rop ((cs.drop off).map (deref S n)) else .ptr l v off
    | _ => .ptr l v off
  | n + 1, .agg cs => .agg (cs.map (deref S n))
  | n + 1, .tup cs => .tup (cs.map (deref S n))
  | _ + 1, .nils => .ros 0 []
  | _ + 1, x => x

theorem relL_map {E : Env} {fz fz' : Nat → Prop} {w : World} {g : AVal → AVal} (hg : ∀ x v, Rel E fz w x v → Rel E fz' w (g x) v) : ∀ (xs : List AVal) (vs : List Value), RelL E fz w xs vs → RelL E fz' w (xs.map g) vs
  | [], _, h => by simpa [RelL] using h
  | x :: xs, _, h => by
    simp only [RelL, List.map_cons] at *
    obtain ⟨v, us, h0, h1, h2⟩ := h
    exact ⟨v, us, h0, hg x v h1, relL_map hg xs us h2⟩
theorem relC_map {E : Env} {fz fz' : Nat → Prop} {w : World} {g : AVal → AVal} (hg : ∀ x v, Rel E fz w x v → Rel E fz' w (g x) v) {b : Nat} : ∀ (xs : List AVal) (off : Nat), RelC E fz w b off xs → RelC E fz' w b off (xs.map g)
  | [], _, h => by simp [RelC]
  | x :: xs, off, h => by
    simp only [RelC, List.map_cons] at *
    obtain ⟨⟨c, h1, h2, h3⟩, h4⟩ := h
    exact ⟨⟨c, h1, h2, hg x c h3⟩, relC_map hg xs _ h4⟩

def frozen (E : Env) (fz : Nat → Prop) (S : Store) (b : Nat) : Prop := fz b ∨ Own E S b

theorem deref_rel {E : Env} {fz : Nat → Prop} {S : Store} {w : World} (st : St E fz S w) : ∀ (n : Nat) (x : AVal) (v : Value), Rel E fz w x v → Rel E (frozen E fz S) w (deref S n x) v := by
  have up : ∀ (x : AVal) (v : Value), Rel E fz w x v → Rel E (frozen E fz S) w x v := fun x v h => Rel.mono (fun _ _ h => h) (fun _ h => .inl h) (fun _ _ => rfl) x h
  intro n
  induction n with
  | zero => intro x v h; exact up x v h
  | succ n ih =>
    intro x v h
    have row : ∀ {l ver k : Nat} {cs : List AVal} {b base cap k0 : Nat}, S[l]? = some (.row ver k cs) → E ver = some (.real b base cap k0) → frozen E fz S b ∧ RelC E fz w b base cs := fun {l ver k cs b base cap k0} hl hv => by
      rcases st.ok l _ hl with ⟨h1, _⟩ | ⟨b', base', cap', arr, T, lo, hi, h1, _, _, _, _, h6, _⟩
      · rw [h1] at hv; cases hv
      · rw [h1] at hv; cases hv
        exact ⟨.inr ⟨l, _, hl, by simp [obBlock, h1]⟩, h6⟩
    cases x
    case sl l ver off len =>
      simp only [deref]
      split
      · rename_i v' k cs hl
        split
        · rename_i he; subst he
          simp only [Rel] at h ⊢
          rcases h with ⟨h1, a, h2⟩ | ⟨b, base, cap, k0, c, h1, h2, h3, h4⟩
          · exact .inl ⟨h1, a, 0, h2⟩
          · obtain ⟨g1, g2⟩ := row hl h1
            exact .inr ⟨b, base + off, c, g1, h2, h4, relC_map ih _ _ (g2.drop off)⟩
        · exact up _ _ h
      · exact up _ _ h
    case ptr l ver off =>
      simp only [deref]
      split
      · rename_i v' k cs hl
        split
        · rename_i he; subst he
          simp only [Rel] at h ⊢
          obtain ⟨b, base, cap, k0, h1, h2⟩ := h
          obtain ⟨g1, g2⟩ := row hl h1
          exact ⟨b, base + off, g1, h2, relC_map ih _ _ (g2.drop off)⟩
        · exact up _ _ h
      · exact up _ _ h
    case agg cs =>
      simp only [deref, Rel] at h ⊢
      obtain ⟨vs, h1, h2, h3⟩ := h
      exact ⟨vs, h1, relL_map ih cs vs h2, h3⟩
    case tup cs =>
      simp only [deref, Rel] at h ⊢
      obtain ⟨vs, h1, h2⟩ := h
      exact ⟨vs, h1, relL_map ih cs vs h2⟩
    case nils =>
      simp only [deref, Rel] at h ⊢
      exact .inl ⟨by simp, none, 0, h⟩
    all_goals exact up _ _ h

theorem St.freeze {E : Env} {fz : Nat → Prop} {S : Store} {w : World} (st : St E fz S w) : St E (frozen E fz S) [] w :=
  ⟨fun l o h => by simp at h, fun l l' b ⟨o, h, _⟩ => by simp at h, fun b hb => hb.elim (st.fzlt b) fun ⟨l, h⟩ => (st.own_lt h).1, st.fresh⟩

/-- Nothing of what was made is written from here on: the result reads as plain immutable cells. -/
theorem ACalls.freeze {R : AVal → Store → Prop} (n : Nat) (h : ACalls P f args [] (fun r S' => R (deref S' n r) [])) : ACalls P f args [] R :=
  ⟨fun E fz w vals st hrel => (h.out E fz w vals st hrel).mono fun e w' ⟨r, S', v, E', fz', h1, h2, h3, h4, h5⟩ =>
    ⟨_, [], v, E', frozen E' fz' S', h1, ⟨h2.env, fun b hb => .inl (h2.frz b hb), fun b hb => hb.elim (h2.fznew b) fun ho => .inr (h2.own b ho), h2.keep, fun b ⟨l, o, hl, _⟩ => by simp at hl, h2.size, h2.os, h2.output, h2.tape⟩,
      h3.freeze, deref_rel h3 n r v h4, h5⟩⟩

mutual
/-- Nothing of memory is in it. -/
def solid : AVal → Bool
  | .int _ _ | .str _ | .bool _ | .tt | .ff | .junk | .nilp | .nils | .nilf | .nilm | .nili => true
  | .agg cs => solidL cs
  | .tup cs => solidL cs
  | .ros n cs => Nat.beq n 0
  | _ => false
def solidL : List AVal → Bool
  | [] => true
  | x :: xs => solid x && solidL xs
end

mutual
theorem solid_rel {E E' : Env} {fz fz' : Nat → Prop} {w w' : World} : ∀ (x : AVal) (v : Value), solid x = true → Rel E fz w x v → Rel E' fz' w' x v
  | .agg cs, v, h, hr => by
    simp only [Rel] at *
    obtain ⟨vs, h1, h2, h3⟩ := hr
    exact ⟨vs, h1, solidL_rel cs vs (by simpa [solid] using h) h2, h3⟩
  | .tup cs, v, h, hr => by
    simp only [Rel] at *
    obtain ⟨vs, h1, h2⟩ := hr
    exact ⟨vs, h1, solidL_rel cs vs (by simpa [solid] using h) h2⟩
  | .ros n cs, v, h, hr => by
    have hn : n = 0 := by simpa [solid] using h
    subst hn
    simp only [Rel] at *
    rcases hr with hr | ⟨b, off, c, g1, g2, g3, g4⟩
    · exact .inl hr
    · exact .inl ⟨trivial, _, _, g3⟩
  | .int _ _, _, _, hr => by simpa [Rel] using hr
  | .str _, _, _, hr => by simpa [Rel] using hr
  | .bool _, _, _, hr => by simpa [Rel] using hr
  | .tt, _, _, hr => by simpa [Rel] using hr
  | .ff, _, _, hr => by simpa [Rel] using hr
  | .junk, _, _, hr => by simp [Rel]
  | .nilp, _, _, hr => by simpa [Rel] using hr
  | .nils, _, _, hr => by simpa [Rel] using hr
  | .nilf, _, _, hr => by simpa [Rel] using hr
  | .nilm, _, _, hr => by simpa [Rel] using hr
  | .nili, _, _, hr => by simpa [Rel] using hr
  | .ptr _ _ _, _, h, _ => by simp [solid] at h
  | .rop _, _, h, _ => by simp [solid] at h
  | .sl _ _ _ _, _, h, _ => by simp [solid] at h
  | .fn _ _ _, _, h, _ => by simp [solid] at h
  | .map _ _, _, h, _ => by simp [solid] at h
  | .iface _ _, _, h, _ => by simp [solid] at h
theorem solidL_rel {E E' : Env} {fz fz' : Nat → Prop} {w w' : World} : ∀ (xs : List AVal) (vs : List Value), solidL xs = true → RelL E fz w xs vs → RelL E' fz' w' xs vs
  | [], _, _, hr => by simpa [RelL] using hr
  | x :: xs, _, h, hr => by
    simp only [RelL] at *
    obtain ⟨v, us, h0, h1, h2⟩ := hr
    simp only [solidL, Bool.and_eq_true] at h
    exact ⟨v, us, h0, solid_rel x v h.1 h1, solidL_rel xs us h.2 h2⟩
end

/-- What is owned is lent to a function that only reads; it answers plain data. -/
theorem ACalls.lend {S : Store} {Q : AVal → Prop} {K : AVal → Store → Prop} (n : Nat) (h : ACalls P f (args.map (deref S n)) [] (fun r _ => solid r = true ∧ Q r)) (hK : ∀ r, Q r → K r S) :
    ACalls P f args S K := by
  refine ⟨fun E fz w vals st hrel => ?_⟩
  have no : ∀ b, ¬ Own E [] b := fun b ⟨l, o, h, _⟩ => by simp at h
  refine (h.out E _ w vals st.freeze (relL_map (fun x v => deref_rel st n x v) args vals hrel)).mono fun e w' ⟨r, S', v, E', fz', h1, h2, h3, h4, h5, h6⟩ => ?_
  have hh : ∀ b, b < w.heap.size → w'.heap[b]? = w.heap[b]? := fun b hb => h2.keep b hb (no b)
  have back : ∀ (l b : Nat), OwnAt E' S l b → OwnAt E S l b := fun l b ⟨o, q1, q2⟩ => ⟨o, q1, by rw [← (st.ok l o q1).block h2.env]; exact q2⟩
  have nf : ∀ b, fz b → ¬ Own E S b := fun b hb ⟨l, ho⟩ => (st.own_lt ho).2 hb
  refine ⟨r, S, v, E', fun b => fz' b ∧ ¬ Own E S b, h1, ⟨h2.env, fun b hb => ⟨h2.frz b (.inl hb), nf b hb⟩, fun b ⟨hb, hn⟩ => ?_, fun b hb _ => hh b hb, fun b ⟨l, ho⟩ => .inl ⟨l, back l b ho⟩, h2.size, h2.os, h2.output, h2.tape⟩,
    ⟨fun l o hl => ?_, fun l l' b q1 q2 => st.sep _ _ _ (back _ _ q1) (back _ _ q2), fun b hb => h3.fzlt b hb.1, h3.fresh⟩, solid_rel r v h5 h4, hK r h6⟩
  · rcases h2.fznew b hb with (q | q) | q | q
    · exact .inl q
    · exact absurd q hn
    · exact absurd q (no b)
    · exact .inr (.inr q)
  · refine (st.ok l o hl).mono h2.env (fun b hb => ⟨h2.frz b (.inl hb), nf b hb⟩) (fun b hb => hh b (st.fzlt b hb)) fun b hb => ⟨hh b (st.own_lt ⟨o, hl, hb⟩).1, fun q => q.2 ⟨l, o, hl, hb⟩⟩

end
end Go.Vc
