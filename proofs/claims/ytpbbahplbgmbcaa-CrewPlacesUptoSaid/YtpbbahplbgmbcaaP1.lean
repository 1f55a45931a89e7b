/- Part of the proof of crewFinds_holds: the whole is true of every input. Conditions: none. -/
import Derived.Conc.CompanyCalls
import Derived.Conc.CompanyDraw
import Derived.Conc.WgGenW
import Derived.Conc.WgArith
import Derived.Conc.CrowdSpec
import Derived.Conc.CrowdComm
set_option linter.all false
section
namespace Go.Vk
open Go.Conc

def poison : Obj := .cells #[] 0 (0, 0)

def Dead {α : Type} (p : Sem α) : Prop := ∀ (P : Program) (w : World) (a : α) (w' : World), p.run P w ≠ .ok a w'
def NoView (o : Obj) : Prop := ∀ a t, o ≠ .view a t

def HMark (m : Mark) : Prop := m = .noRoom ∨ ∃ f, m = .extern f

def Tame (P : Program) {α : Type} : Sem α → Prop
  | .pure _ => True
  | .load _ _ k => ∀ v, Tame P (k v)
  | .store _ _ _ k => Tame P k
  | .new o k => NoView o ∧ ∀ r, Tame P (k r)
  | .shape _ k => ∀ s, Dead (k s)
  | .freeze _ _ k => Dead k
  | .frozen _ k => ∀ b, Dead (k b)
  | .getObj _ k => ∀ o, Tame P (k o)
  | .setObj _ o k => NoView o ∧ Tame P k
  | .choose _ k => ∀ n, Tame P (k n)
  | .sys _ _ => False
  | .program k => Tame P (k P)
  | .mark m k => HMark m ∧ Tame P k
  | .halt _ => True

theorem Dead.bind {α β : Type} {p : Sem α} (h : Dead p) (f : α → Sem β) : Dead (p >>= f) := fun P w a w' => by
  rw [Sem.run_bind]
  have := h P w
  revert this
  cases p.run P w with
  | ok x w1 => exact fun q => absurd rfl (q x w1)
  | halt x w1 => exact fun _ e => (by cases e)
theorem Dead.then {α β : Type} {p : Sem α} {f : α → Sem β} (h : ∀ a, Dead (f a)) : Dead (p >>= f) := fun P w a w' => by
  rw [Sem.run_bind]
  cases p.run P w with
  | ok x w1 => exact h x P w1 a w'
  | halt x w1 => exact fun e => (by cases e)
theorem Dead.halt {α : Type} {x : Halt} : Dead (.halt x : Sem α) := fun P w a w' e => by cases e
theorem Tame.halt {P : Program} {α : Type} {x : Halt} : Tame P (.halt x : Sem α) := trivial
theorem Tame.pure {P : Program} {α : Type} {x : α} : Tame P (Pure.pure x : Sem α) := trivial
theorem Tame.bind {P : Program} {α β : Type} {f : α → Sem β} (hf : ∀ a, Tame P (f a)) : ∀ {p : Sem α}, Tame P p → Tame P (p >>= f)
  | .pure a, h => hf a
  | .load m a k, h => fun v => Tame.bind hf (h v)
  | .store m a v k, h => Tame.bind hf (p := k) h
  | .new o k, h => ⟨h.1, fun r => Tame.bind hf (h.2 r)⟩
  | .shape r k, h => fun s => (h s).bind f
  | .freeze a n k, h => Dead.bind (p := k) h f
  | .frozen a k, h => fun s => (h s).bind f
  | .getObj r k, h => fun o => Tame.bind hf (h o)
  | .setObj r o k, h => ⟨h.1, Tame.bind hf (p := k) h.2⟩
  | .choose q k, h => fun n => Tame.bind hf (h n)
  | .sys c k, h => h.elim
  | .program k, h => Tame.bind hf (p := k P) h
  | .mark m k, h => ⟨h.1, Tame.bind hf (p := k) h.2⟩
  | .halt x, h => trivial



structure Gh where
  ow : Nat → Prop
  fz : Nat → Prop
theorem Gh.eq {γ γ' : Gh} (h : ∀ b, γ.ow b ↔ γ'.ow b) (h' : ∀ b, γ.fz b ↔ γ'.fz b) : γ = γ' := by
  cases γ; cases γ'
  simp only [Gh.mk.injEq]
  exact ⟨funext fun b => propext (h b), funext fun b => propext (h' b)⟩

def Gh.grow (γ : Gh) (n m : Nat) : Gh := ⟨fun b => γ.ow b ∨ (n ≤ b ∧ b < m), γ.fz⟩
theorem Gh.grow_self {γ : Gh} {n : Nat} : γ.grow n n = γ := Gh.eq (fun b => ⟨fun h => h.elim id fun h => absurd h.2 (by omega), .inl⟩) fun _ => Iff.rfl
theorem Gh.grow_grow {γ : Gh} {n m l : Nat} (h : n ≤ m) (h' : m ≤ l) : (γ.grow n m).grow m l = γ.grow n l := by
  refine Gh.eq (fun b => ?_) fun _ => Iff.rfl
  simp only [Gh.grow]
  constructor
  · rintro ((h | h) | h)
    · exact .inl h
    · exact .inr (by omega)
    · exact .inr (by omega)
  · rintro (h | h)
    · exact .inl (.inl h)
    · rcases Nat.lt_or_ge b m with q | q
      · exact .inl (.inr ⟨h.1, q⟩)
      · exact .inr ⟨q, h.2⟩


structure Rl (γ : Gh) (w w₁ : World) : Prop where
  size : w.heap.size ≤ w₁.heap.size
  keep : ∀ b, γ.ow b ∨ γ.fz b → w₁.heap[b]? = w.heap[b]?
  os : w₁.os = w.os
  output : w₁.output = w.output
  tape : w₁.tape = w.tape
theorem Rl.refl {γ : Gh} {w : World} : Rl γ w w := ⟨Nat.le_refl _, fun _ _ => rfl, rfl, rfl, rfl⟩
theorem Rl.trans {γ : Gh} {a b c : World} (h : Rl γ a b) (h' : Rl γ b c) : Rl γ a c :=
  ⟨Nat.le_trans h.size h'.size, fun x hx => (h'.keep x hx).trans (h.keep x hx), h'.os.trans h.os, h'.output.trans h.output, h'.tape.trans h.tape⟩

def AtOk (γ : Gh) (n m : Nat) (e : Event) : Prop :=
  match e.loc with
  | .cell a => γ.ow a.block ∨ (n ≤ a.block ∧ a.block < m) ∨ (e.write = false ∧ γ.fz a.block)
  | .obj r => γ.ow r ∨ (n ≤ r ∧ r < m)
  | .mark m => HMark m
  | _ => False

structure Dg (γ : Gh) (w₁ w' : World) (es : Array Event) : Prop where
  size : w₁.heap.size ≤ w'.heap.size
  keep : ∀ b, b < w₁.heap.size → ¬ γ.ow b → w'.heap[b]? = w₁.heap[b]?
  os : w'.os = w₁.os
  output : w'.output = w₁.output
  tape : w'.tape = w₁.tape
  acc : ∀ e ∈ es, AtOk γ w₁.heap.size w'.heap.size e
theorem Dg.idle {γ : Gh} {w : World} : Dg γ w w #[] := ⟨Nat.le_refl _, fun _ _ _ => rfl, rfl, rfl, rfl, fun e he => by simp at he⟩
theorem AtOk.back {γ : Gh} {n m l : Nat} {e : Event} (h : AtOk (γ.grow n m) m l e) (hm : n ≤ m) (hl : m ≤ l) : AtOk γ n l e := by
  unfold AtOk at h ⊢
  cases hl : e.loc <;> rw [hl] at h <;> simp only at h ⊢
  · rcases h with (h | h) | h | h
    · exact .inl h
    · exact .inr (.inl ⟨h.1, by omega⟩)
    · exact .inr (.inl ⟨by omega, h.2⟩)
    · exact .inr (.inr h)
  · rcases h with (h | h) | h
    · exact .inl h
    · exact .inr ⟨h.1, by omega⟩
    · exact .inr ⟨by omega, h.2⟩
  · exact h
theorem AtOk.more {γ : Gh} {n m l : Nat} {e : Event} (h : AtOk γ n m e) (hl : m ≤ l) : AtOk γ n l e := by
  unfold AtOk at h ⊢
  cases hl : e.loc <;> rw [hl] at h <;> simp only at h ⊢
  · rcases h with h | h | h
    · exact .inl h
    · exact .inr (.inl ⟨h.1, by omega⟩)
    · exact .inr (.inr h)
  · rcases h with h | h
    · exact .inl h
    · exact .inr ⟨h.1, by omega⟩
  · exact h
theorem Dg.trans {γ : Gh} {w w1 w2 : World} {e1 e2 : Array Event} (h : Dg γ w w1 e1) (h' : Dg (γ.grow w.heap.size w1.heap.size) w1 w2 e2) : Dg γ w w2 (e1 ++ e2) where
  size := Nat.le_trans h.size h'.size
  keep b hb hn := by rw [h'.keep b (Nat.lt_of_lt_of_le hb h.size) (fun q => q.elim hn fun q => by omega), h.keep b hb hn]
  os := h'.os.trans h.os
  output := h'.output.trans h.output
  tape := h'.tape.trans h.tape
  acc e he := by
    rcases Array.mem_append.1 he with q | q
    · exact (h.acc e q).more h'.size
    · exact (h'.acc e q).back h.size h'.size


structure Vt (γ : Gh) (w v : World) : Prop where
  size : v.heap.size = w.heap.size
  own : ∀ b, γ.ow b → b < w.heap.size ∧ ¬ γ.fz b ∧ v.heap[b]? = w.heap[b]? ∧ ∀ o, w.heap[b]? = some o → NoView o
  shared : ∀ b, γ.fz b → ∃ c e fr, w.heap[b]? = some (.cells c e fr) ∧ v.heap[b]? = some (.cells c e (0, c.size))
  other : ∀ b, b < w.heap.size → ¬ γ.ow b → ¬ γ.fz b → v.heap[b]? = some poison
  os : v.os = w.os
  output : v.output = w.output
  tape : v.tape = w.tape
  drawn : v.drawn = w.drawn

theorem lt_of_get {w : World} {b : Nat} {o : Obj} (h : w.heap[b]? = some o) : b < w.heap.size := by
  rcases Nat.lt_or_ge b w.heap.size with q | q
  · exact q
  · simp [Array.getElem?_eq_none q] at h

section
variable {γ : Gh} {w v : World}

theorem Vt.cell (h : Vt γ w v) {a : Addr} {x : Value} (hc : v.cell? a = some x) : w.cell? a = some x ∧ (γ.ow a.block ∨ γ.fz a.block) := by
  have hlt : a.block < v.heap.size := by
    unfold World.cell? at hc
    cases hg : v.heap[a.block]? with
    | none => rw [hg] at hc; cases hc
    | some o => exact lt_of_get hg
  by_cases ho : γ.ow a.block
  · obtain ⟨_, _, h3, _⟩ := h.own _ ho
    refine ⟨?_, .inl ho⟩
    unfold World.cell? at hc ⊢
    rw [← h3]; exact hc
  · by_cases hf : γ.fz a.block
    · obtain ⟨c, e, fr, h1, h2⟩ := h.shared _ hf
      refine ⟨?_, .inr hf⟩
      unfold World.cell? at hc ⊢
      rw [h2] at hc
      rw [h1]; exact hc
    · have := h.other _ (by rw [← h.size]; exact hlt) ho hf
      unfold World.cell? at hc
      rw [this] at hc
      simp [poison] at hc
theorem Vt.nofar (h : Vt γ w v) {a : Addr} (P : Program) {at_ : Addr} {u : TypeId} (hv : v.heap[a.block]? = some (.view at_ u)) : False := by
  by_cases ho : γ.ow a.block
  · obtain ⟨_, _, h3, h4⟩ := h.own _ ho
    exact h4 _ (by rw [← h3]; exact hv) _ _ rfl
  · by_cases hf : γ.fz a.block
    · obtain ⟨c, e, fr, h1, h2⟩ := h.shared _ hf
      rw [h2] at hv; cases hv
    · have := h.other _ (by rw [← h.size]; exact lt_of_get hv) ho hf
      rw [this] at hv; cases hv
theorem Vt.farLoad (h : Vt γ w v) {a : Addr} {P : Program} {b : Bool} {r : Value × List Addr} : v.farLoad P a b ≠ .ok r := by
  unfold World.farLoad
  split
  · rename_i at_ u hv; exact (h.nofar P hv).elim
  · intro e; cases e
theorem Vt.farStore (h : Vt γ w v) {a : Addr} {P : Program} {x : Value} {b : Bool} {r : World × List Addr} : v.farStore P a x b ≠ .ok r := by
  unfold World.farStore
  split
  · rename_i at_ u hv; exact (h.nofar P hv).elim
  · intro e; cases e
theorem Vt.obj (h : Vt γ w v) {r : Nat} {o : Obj} (hv : v.heap[r]? = some o) (hn : ∀ c e fr, o ≠ .cells c e fr) : γ.ow r ∧ w.heap[r]? = some o := by
  by_cases ho : γ.ow r
  · obtain ⟨_, _, h3, _⟩ := h.own _ ho
    exact ⟨ho, by rw [← h3]; exact hv⟩
  · by_cases hf : γ.fz r
    · obtain ⟨c, e, fr, h1, h2⟩ := h.shared _ hf
      rw [h2] at hv; cases hv; exact (hn _ _ _ rfl).elim
    · have := h.other _ (by rw [← h.size]; exact lt_of_get hv) ho hf
      rw [this] at hv; cases hv; exact (hn _ _ _ rfl).elim

theorem Vt.put (h : Vt γ w v) {b : Nat} {f : Obj → Obj} (ho : γ.ow b) (hv : ∀ o, w.heap[b]? = some o → NoView (f o)) {w' v' : World} (hw' : w'.heap = w.heap.modify b f) (hv' : v'.heap = v.heap.modify b f)
    (e1 : w'.os = w.os ∧ w'.output = w.output ∧ w'.tape = w.tape ∧ w'.drawn = w.drawn) (e2 : v'.os = v.os ∧ v'.output = v.output ∧ v'.tape = v.tape ∧ v'.drawn = v.drawn) :
    Vt γ w' v' ∧ ∀ (es : Array Event), (∀ e ∈ es, AtOk γ w.heap.size w'.heap.size e) → Dg γ w w' es := by
  have gw : ∀ x : Nat, w'.heap[x]? = if b = x then (w.heap[x]?).map f else w.heap[x]? := fun x => by rw [hw', Array.getElem?_modify]
  have gv : ∀ x : Nat, v'.heap[x]? = if b = x then (v.heap[x]?).map f else v.heap[x]? := fun x => by rw [hv', Array.getElem?_modify]
  have sw : w'.heap.size = w.heap.size := by rw [hw', Array.size_modify]
  have sv : v'.heap.size = v.heap.size := by rw [hv', Array.size_modify]
  refine ⟨⟨by rw [sw, sv]; exact h.size, fun x hx => ?_, fun x hx => ?_, fun x h1 h2 h3 => ?_, by rw [e1.1, e2.1]; exact h.os, by rw [e1.2.1, e2.2.1]; exact h.output, by rw [e1.2.2.1, e2.2.2.1]; exact h.tape, by rw [e1.2.2.2, e2.2.2.2]; exact h.drawn⟩,
    fun es he => ⟨by rw [sw]; exact Nat.le_refl _, fun x h1 h2 => ?_, e1.1, e1.2.1, e1.2.2.1, he⟩⟩
  · obtain ⟨q1, q2, q3, q4⟩ := h.own x hx
    rw [gw, gv, sw]
    by_cases hb : b = x
    · subst hb
      rw [if_pos rfl, if_pos rfl, q3]
      refine ⟨q1, q2, rfl, fun o e => ?_⟩
      cases hg : w.heap[b]? with
      | none => rw [hg] at e; cases e
      | some o' => rw [hg] at e; cases e; exact hv o' hg
    · rw [if_neg hb, if_neg hb]; exact ⟨q1, q2, q3, q4⟩
  · have hb : b ≠ x := fun e => (h.own b ho).2.1 (by rw [e]; exact hx)
    rw [gw, gv, if_neg hb, if_neg hb]
    exact h.shared x hx
  · have hb : b ≠ x := fun e => h2 (by rw [← e]; exact ho)
    rw [gv, if_neg hb]
    exact h.other x (by rw [← sw]; exact h1) h2 h3
  · have hb : b ≠ x := fun e => h2 (by rw [← e]; exact ho)
    rw [gw, if_neg hb]
theorem Vt.draw (h : Vt γ w v) : Vt γ { w with drawn := w.drawn + 1 } { v with drawn := v.drawn + 1 } :=
  ⟨h.size, h.own, h.shared, h.other, h.os, h.output, h.tape, by show v.drawn + 1 = w.drawn + 1; rw [h.drawn]⟩
theorem Dg.draw : Dg γ w { w with drawn := w.drawn + 1 } #[] := ⟨Nat.le_refl _, fun _ _ _ => rfl, rfl, rfl, rfl, fun e he => by simp at he⟩
theorem Vt.push (h : Vt γ w v) {o : Obj} (ho : NoView o) : Vt (γ.grow w.heap.size (w.heap.size + 1)) { w with heap := w.heap.push o } { v with heap := v.heap.push o } := by
  have gw : ∀ x : Nat, x < w.heap.size → (w.heap.push o)[x]? = w.heap[x]? := fun x hx => by rw [Array.getElem?_push_lt hx, Array.getElem?_eq_getElem hx]
  have gv : ∀ x : Nat, x < w.heap.size → (v.heap.push o)[x]? = v.heap[x]? := fun x hx => by
    have hx' : x < v.heap.size := by rw [h.size]; exact hx
    rw [Array.getElem?_push_lt hx', Array.getElem?_eq_getElem hx']
  have lw : (w.heap.push o)[w.heap.size]? = some o := by simp
  have lv : (v.heap.push o)[w.heap.size]? = some o := by rw [← h.size]; simp
  refine ⟨by simp [h.size], fun x hx => ?_, fun x hx => ?_, fun x h1 h2 h3 => ?_, h.os, h.output, h.tape, h.drawn⟩
  · rcases hx with hx | hx
    · obtain ⟨q1, q2, q3, q4⟩ := h.own x hx
      refine ⟨by simp; omega, q2, ?_, ?_⟩
      · show (v.heap.push o)[x]? = (w.heap.push o)[x]?
        rw [gw x q1, gv x q1]; exact q3
      · show ∀ o', (w.heap.push o)[x]? = some o' → NoView o'
        rw [gw x q1]; exact q4
    · have e : x = w.heap.size := by omega
      subst e
      refine ⟨by simp, fun hf => ?_, ?_, ?_⟩
      · obtain ⟨c, e, fr, q1, _⟩ := h.shared _ hf
        have := lt_of_get q1; omega
      · show (v.heap.push o)[w.heap.size]? = (w.heap.push o)[w.heap.size]?
        rw [lw, lv]
      · show ∀ o', (w.heap.push o)[w.heap.size]? = some o' → NoView o'
        rw [lw]; intro o' e; cases e; exact ho
  · obtain ⟨c, e, fr, q1, q2⟩ := h.shared x hx
    have hlt := lt_of_get q1
    refine ⟨c, e, fr, ?_, ?_⟩
    · show (w.heap.push o)[x]? = _
      rw [gw x hlt]; exact q1
    · show (v.heap.push o)[x]? = _
      rw [gv x hlt]; exact q2
  · have hlt : x < w.heap.size := by
      simp at h1
      have : x ≠ w.heap.size := fun e => h2 (.inr (by omega))
      omega
    show (v.heap.push o)[x]? = _
    rw [gv x hlt]
    exact h.other x hlt (fun q => h2 (.inl q)) h3
end

theorem Tame.sim {α : Type} (P : Program) : ∀ (p : Sem α), Tame P p → ∀ {γ : Gh} {w v : World} {es : Array Event} {a : α} {v' : World}, Vt γ w v → p.run P v = .ok a v' →
    ∃ w' es', p.runT P w es = (.ok a w', es ++ es') ∧ Vt (γ.grow w.heap.size w'.heap.size) w' v' ∧ Dg γ w w' es' := by
  have app : ∀ (a b c : Array Event), a ++ b ++ c = a ++ (b ++ c) := fun a b c => Array.append_assoc
  intro p
  induction p with
  | pure x => intro _ γ w v es a v' h hr; cases hr; exact ⟨w, #[], by simp [Sem.runT], by rw [Gh.grow_self]; exact h, .idle⟩
  | load m ad k ih =>
    intro ht γ w v es a v' h hr
    simp only [Sem.run] at hr
    cases hc : v.cell? ad with
    | none =>
      rw [hc] at hr
      simp only at hr
      split at hr
      · rename_i he; exact (h.farLoad he).elim
      · cases hr
    | some x =>
      rw [hc] at hr
      obtain ⟨h1, h2⟩ := h.cell hc
      obtain ⟨w', es', q1, q2, q3⟩ := ih x (ht x) (es := es.push ⟨.cell ad, false, m == .atomic⟩) h hr
      refine ⟨w', #[⟨.cell ad, false, m == .atomic⟩] ++ es', ?_, q2, Dg.trans (w1 := w) ⟨Nat.le_refl _, fun _ _ _ => rfl, rfl, rfl, rfl, fun e he => ?_⟩ (by rw [Gh.grow_self]; exact q3)⟩
      · simp only [Sem.runT, h1]
        rw [q1]
        simp [← Array.append_assoc]
      · simp at he; subst he
        simp only [AtOk]
        exact h2.imp id fun q => .inr (by simpa using q)
  | store m ad x k ih =>
    intro ht γ w v es a v' h hr
    have main : (match v.cell? ad with
      | some _ => if v.frozen? ad then (Result.halt (.unsupported (.unsafePointer "a write to bytes that a string shares")) v : Result α) else k.run P (v.setCell ad x)
      | none => match v.farStore P ad x (m == Mode.atomic) with
        | .ok (w, _) => k.run P w
        | .error h => .halt h v) = .ok a v' → w.cell? ad ≠ none ∧ w.frozen? ad = false ∧ ∃ w' es', k.runT P (w.setCell ad x) (es.push ⟨.cell ad, true, m == Mode.atomic⟩) = (.ok a w', es ++ es') ∧ Vt (γ.grow w.heap.size w'.heap.size) w' v' ∧ Dg γ w w' es' := by
      intro hr
      cases hc : v.cell? ad with
      | none =>
        rw [hc] at hr
        simp only at hr
        split at hr
        · rename_i he; exact (h.farStore he).elim
        · cases hr
      | some y =>
        rw [hc] at hr
        simp only at hr
        obtain ⟨h1, h2⟩ := h.cell hc
        split at hr
        · cases hr
        rename_i hfr
        have ho : γ.ow ad.block := by
          rcases h2 with h2 | h2
          · exact h2
          · obtain ⟨c, e, fr, g1, g2⟩ := h.shared _ h2
            refine (hfr ?_).elim
            unfold World.cell? at hc
            rw [g2] at hc
            simp only at hc
            split at hc
            · cases hc
            · have := (Array.getElem?_eq_some_iff.1 hc).1
              simp [World.frozen?, g2, this]
        obtain ⟨o1, o2, o3, o4⟩ := h.own _ ho
        have hfr' : w.frozen? ad = false := by
          have : w.frozen? ad = v.frozen? ad := by simp only [World.frozen?, o3]
          rw [this]; simpa using hfr
        obtain ⟨p1, p2⟩ := h.put (b := ad.block) (f := fun
            | .cells c elem frozen => .cells (if ad.spot.isSome then c else c.setIfInBounds ad.off x) elem frozen
            | o => o) ho (fun o ho' => by
              have := o4 o ho'
              cases o <;> first | exact this | exact fun _ _ e => (by cases e)) (w' := w.setCell ad x) (v' := v.setCell ad x) rfl rfl ⟨rfl, rfl, rfl, rfl⟩ ⟨rfl, rfl, rfl, rfl⟩
        obtain ⟨w', es', q1, q2, q3⟩ := ih ht (es := es.push ⟨.cell ad, true, m == .atomic⟩) p1 hr
        have hsz : (w.setCell ad x).heap.size = w.heap.size := by simp [World.setCell]
        rw [hsz] at q2
        refine ⟨by rw [h1]; simp, hfr', w', #[⟨.cell ad, true, m == .atomic⟩] ++ es', ?_, q2, Dg.trans (p2 _ fun e he => ?_) (by rw [hsz, Gh.grow_self]; exact q3)⟩
        · rw [q1]
          simp [← Array.append_assoc]
        · simp at he; subst he; exact .inl ho
    have fin : w.cell? ad ≠ none ∧ w.frozen? ad = false ∧ ∃ w' es', k.runT P (w.setCell ad x) (es.push ⟨.cell ad, true, m == Mode.atomic⟩) = (.ok a w', es ++ es') ∧ Vt (γ.grow w.heap.size w'.heap.size) w' v' ∧ Dg γ w w' es' := by
      refine main ?_
      cases x <;> simp only [Sem.run] at hr <;> first | exact hr | (cases hr)
    obtain ⟨f1, f2, w', es', f3, f4, f5⟩ := fin
    refine ⟨w', es', ?_, f4, f5⟩
    rw [← f3]
    cases hc : w.cell? ad with
    | none => exact (f1 hc).elim
    | some y => cases x <;> simp only [Sem.run] at hr <;> first | (simp only [Sem.runT, hc, f2, Bool.false_eq_true, if_false]; done) | (cases hr)
  | new o k ih =>
    intro ht γ w v es a v' h hr
    simp only [Sem.run] at hr
    obtain ⟨w', es', q1, q2, q3⟩ := ih _ (ht.2 _) (es := es) (h.push ht.1) hr
    have hsz : ({ w with heap := w.heap.push o } : World).heap.size = w.heap.size + 1 := by simp
    rw [hsz] at q2
    have hle := q3.size
    rw [hsz] at hle
    rw [Gh.grow_grow (Nat.le_succ _) hle] at q2
    refine ⟨w', es', ?_, q2, ?_⟩
    · simp only [Sem.runT, ← h.size]
      exact q1
    · have d1 : Dg γ w { w with heap := w.heap.push o } #[] := ⟨by simp, fun b hb _ => by
        show (w.heap.push o)[b]? = _
        rw [Array.getElem?_push_lt hb, Array.getElem?_eq_getElem hb], rfl, rfl, rfl, fun e he => by simp at he⟩
      simpa using d1.trans (by rw [hsz]; exact q3)
  | shape r k ih => intro ht γ w v es a v' h hr; simp only [Sem.run] at hr; exact (ht _ _ _ _ _ hr).elim
  | freeze ad n k ih => intro ht γ w v es a v' h hr; simp only [Sem.run] at hr; exact (ht _ _ _ _ hr).elim
  | frozen ad k ih => intro ht γ w v es a v' h hr; simp only [Sem.run] at hr; exact (ht _ _ _ _ _ hr).elim
  | getObj r k ih =>
    intro ht γ w v es a v' h hr
    simp only [Sem.run] at hr
    split at hr
    · cases hr
    · rename_i o hn ho
      obtain ⟨h1, h2⟩ := h.obj ho fun c e fr e' => hn c e fr e'
      obtain ⟨w', es', q1, q2, q3⟩ := ih o (ht o) (es := es.push ⟨.obj r, false, o.isChan⟩) h hr
      refine ⟨w', #[⟨.obj r, false, o.isChan⟩] ++ es', ?_, q2, Dg.trans (w1 := w) ⟨Nat.le_refl _, fun _ _ _ => rfl, rfl, rfl, rfl, fun e he => ?_⟩ (by rw [Gh.grow_self]; exact q3)⟩
      · simp only [Sem.runT]
        rw [h2]
        cases o <;> first | exact (hn _ _ _ rfl).elim | (simp only []; rw [q1]; simp [← Array.append_assoc])
      · simp at he; subst he; exact .inl h1
    · cases hr
  | setObj r o k ih =>
    intro ht γ w v es a v' h hr
    simp only [Sem.run] at hr
    split at hr
    · cases hr
    · rename_i o' hn ho
      obtain ⟨h1, h2⟩ := h.obj ho fun c e fr e' => hn c e fr e'
      have md : ∀ (x : Array Obj), x.setIfInBounds r o = x.modify r fun _ => o := fun x => by
        apply Array.ext
        · simp
        · intro i h1 h2
          rw [Array.getElem_setIfInBounds, Array.getElem_modify]
      obtain ⟨p1, p2⟩ := h.put (b := r) (f := fun _ => o) h1 (fun _ _ => ht.1) (w' := { w with heap := w.heap.setIfInBounds r o }) (v' := { v with heap := v.heap.setIfInBounds r o }) (md _) (md _) ⟨rfl, rfl, rfl, rfl⟩ ⟨rfl, rfl, rfl, rfl⟩
      obtain ⟨w', es', q1, q2, q3⟩ := ih ht.2 (es := es.push ⟨.obj r, true, o.isChan⟩) p1 hr
      have hsz : ({ w with heap := w.heap.setIfInBounds r o } : World).heap.size = w.heap.size := by simp
      rw [hsz] at q2
      refine ⟨w', #[⟨.obj r, true, o.isChan⟩] ++ es', ?_, q2, Dg.trans (p2 _ fun e he => ?_) (by rw [hsz, Gh.grow_self]; exact q3)⟩
      · simp only [Sem.runT]
        rw [h2]
        cases o' <;> first | exact (hn _ _ _ rfl).elim | (simp only []; rw [q1]; simp [← Array.append_assoc])
      · simp at he; subst he; exact .inl h1
    · cases hr
  | choose q k ih =>
    intro ht γ w v es a v' h hr
    simp only [Sem.run] at hr
    by_cases hq : q.forced = true
    · rw [if_pos hq] at hr
      obtain ⟨w', es', q1, q2, q3⟩ := ih _ (ht _) (es := es) h hr
      exact ⟨w', es', by simp only [Sem.runT, if_pos hq]; exact q1, q2, q3⟩
    · rw [if_neg hq] at hr
      obtain ⟨w', es', q1, q2, q3⟩ := ih _ (ht _) (es := es) h.draw hr
      exact ⟨w', es', by rw [h.tape, h.drawn] at q1; simp only [Sem.runT, if_neg hq]; exact q1, q2, by
        have := Dg.trans (Dg.draw (γ := γ) (w := w)) (by rw [Gh.grow_self]; exact q3)
        simpa using this⟩
  | sys c k ih => intro ht; exact ht.elim
  | program k ih =>
    intro ht γ w v es a v' h hr
    simp only [Sem.run] at hr
    obtain ⟨w', es', q1, q2, q3⟩ := ih _ ht (es := es) h hr
    exact ⟨w', es', by simp only [Sem.runT]; exact q1, q2, q3⟩
  | mark m k ih =>
    intro ht γ w v es a v' h hr
    simp only [Sem.run] at hr
    obtain ⟨w', es', q1, q2, q3⟩ := ih ht.2 (es := es.push ⟨.mark m, false, true⟩) h hr
    refine ⟨w', #[⟨.mark m, false, true⟩] ++ es', ?_, q2, Dg.trans (w1 := w) ⟨Nat.le_refl _, fun _ _ _ => rfl, rfl, rfl, rfl, fun e he => ?_⟩ (by rw [Gh.grow_self]; exact q3)⟩
    · simp only [Sem.runT]
      rw [q1]
      simp [← Array.append_assoc]
    · simp at he; subst he; exact ht.1
  | halt x => intro ht γ w v es a v' h hr; cases hr
end Go.Vk
end
section
namespace Go.Vk
open Go.Conc

structure Itf (w w₁ : World) : Prop where
  heap : ∃ k, w₁.heap = w.heap ++ Array.replicate k poison
  os : w₁.os = w.os
  output : w₁.output = w.output
  tape : w₁.tape = w.tape
theorem Itf.refl {w : World} : Itf w w := ⟨⟨0, by simp⟩, rfl, rfl, rfl⟩
theorem Itf.trans {a b c : World} (h : Itf a b) (h' : Itf b c) : Itf a c := by
  obtain ⟨k, hk⟩ := h.heap
  obtain ⟨l, hl⟩ := h'.heap
  refine ⟨⟨k + l, ?_⟩, h'.os.trans h.os, h'.output.trans h.output, h'.tape.trans h.tape⟩
  rw [hl, hk, Array.append_assoc]
  congr 1
  apply Array.ext'
  simp
theorem Itf.get {w w₁ : World} (h : Itf w w₁) {b : Nat} (hb : b < w.heap.size) : w₁.heap[b]? = w.heap[b]? := by
  obtain ⟨k, hk⟩ := h.heap
  rw [hk, Array.getElem?_append_left hb]
theorem Itf.size {w w₁ : World} (h : Itf w w₁) : w.heap.size ≤ w₁.heap.size := by
  obtain ⟨k, hk⟩ := h.heap
  rw [hk]; simp

theorem Vt.rely {γ : Gh} {w w₁ v : World} (h : Vt γ w v) (hr : Rl γ w w₁) : ∃ v₁, Vt γ w₁ v₁ ∧ Itf v v₁ := by
  let v₁ : World := { v with heap := v.heap ++ Array.replicate (w₁.heap.size - w.heap.size) poison, drawn := w₁.drawn }
  have gv : ∀ x : Nat, x < w.heap.size → v₁.heap[x]? = v.heap[x]? := fun x hx => by
    show (v.heap ++ _)[x]? = _
    rw [Array.getElem?_append_left (by rw [h.size]; exact hx)]
  have hs : v₁.heap.size = w₁.heap.size := by
    show (v.heap ++ _).size = _
    have := hr.size
    simp [h.size]; omega
  refine ⟨v₁, ⟨hs, fun b hb => ?_, fun b hb => ?_, fun b h1 h2 h3 => ?_, by rw [hr.os]; exact h.os, by rw [hr.output]; exact h.output, by rw [hr.tape]; exact h.tape, rfl⟩, ⟨_, rfl⟩, rfl, rfl, rfl⟩
  · obtain ⟨q1, q2, q3, q4⟩ := h.own b hb
    refine ⟨Nat.lt_of_lt_of_le q1 hr.size, q2, ?_, ?_⟩
    · rw [gv b q1, hr.keep b (.inl hb)]; exact q3
    · rw [hr.keep b (.inl hb)]; exact q4
  · obtain ⟨c, e, fr, q1, q2⟩ := h.shared b hb
    refine ⟨c, e, fr, ?_, ?_⟩
    · rw [hr.keep b (.inr hb)]; exact q1
    · rw [gv b (lt_of_get q1)]; exact q2
  · rcases Nat.lt_or_ge b w.heap.size with q | q
    · rw [gv b q]; exact h.other b q h2 h3
    · show (v.heap ++ Array.replicate _ poison)[b]? = _
      rw [Array.getElem?_append_right (by rw [h.size]; exact q), Array.getElem?_replicate, if_pos (by rw [h.size]; omega)]



structure Cx where
  main : Bool
  I : World → Prop

structure SimAt (P : Program) (main : Cx) (g : Goroutine) (v : World) (g' : Goroutine) (v' : World) : Prop where
  out : ∀ {γ : Gh} {w : World}, Vt γ w v → main.I w → ∃ w' es, stepG P main.main g w = .go g' w' es ∧ Vt (γ.grow w.heap.size w'.heap.size) w' v' ∧ Dg γ w w' es
section
variable {P : Program} {main : Cx}
theorem SimAt.idle {g g' : Goroutine} {v : World} (h : ∀ w, main.I w → stepG P main.main g w = .go g' w #[]) : SimAt P main g v g' v := .mk fun {γ w} hv hI =>
  ⟨w, #[], h w hI, by rw [Gh.grow_self]; exact hv, .idle⟩
theorem SimAt.draw {g g' : Goroutine} {v : World} (h : ∀ w : World, w.tape = v.tape → w.drawn = v.drawn → stepG P main.main g w = .go g' { w with drawn := w.drawn + 1 } #[]) : SimAt P main g v g' { v with drawn := v.drawn + 1 } := .mk fun {γ w} hv hI =>
  ⟨_, #[], h w hv.tape.symm hv.drawn.symm, by
    have : ({ w with drawn := w.drawn + 1 } : World).heap.size = w.heap.size := rfl
    rw [this, Gh.grow_self]; exact hv.draw, Dg.draw⟩
theorem seen_sub (P : Program) (fn : FuncId) (es : Array Event) : ∀ e ∈ seen P fn es, e ∈ es := by
  have key : ∀ (l : List Event) (q : Bool) (kept : Array Event), ∀ e ∈ (l.foldl (fun (x : Bool × Array Event) e => match e.loc with
      | .mark (.extern f) => ((P.funcs[f]?).any (·.norace), x.2)
      | _ => (x.1, if x.1 && !e.sync then x.2 else x.2.push e)) (q, kept)).2, e ∈ kept ∨ e ∈ l := by
    intro l
    induction l with
    | nil => intro q kept e he; exact .inl he
    | cons a l ih =>
      intro q kept e he
      rw [List.foldl_cons] at he
      have push : ∀ (b : Bool), e ∈ (if b then kept else kept.push a) → e ∈ kept ∨ e = a := fun b hb => by
        cases b
        · simpa using hb
        · exact .inl hb
      have fin : ∀ {b : Bool} {kk : Array Event}, e ∈ (l.foldl (fun (x : Bool × Array Event) e => match e.loc with
        | .mark (.extern f) => ((P.funcs[f]?).any (·.norace), x.2)
        | _ => (x.1, if x.1 && !e.sync then x.2 else x.2.push e)) (b, kk)).2 → (e ∈ kk → e ∈ kept ∨ e = a) → e ∈ kept ∨ e ∈ a :: l := fun {b kk} h1 h2 => by
        rcases ih b kk e h1 with h | h
        · rcases h2 h with h | h
          · exact .inl h
          · exact .inr (by rw [h]; exact List.mem_cons_self)
        · exact .inr (List.mem_cons_of_mem _ h)
      revert he
      cases a.loc with
      | mark m => cases m with
        | extern f => exact fun he => fin he .inl
        | _ => exact fun he => fin he (push _)
      | _ => exact fun he => fin he (push _)
  intro e he
  have : seen P fn es = (es.toList.foldl (fun (x : Bool × Array Event) e => match e.loc with
      | .mark (.extern f) => ((P.funcs[f]?).any (·.norace), x.2)
      | _ => (x.1, if x.1 && !e.sync then x.2 else x.2.push e)) ((P.funcs[fn]?).any (·.norace), #[])).2 := by
    simp only [seen, ← Array.foldl_toList]
    rfl
  rw [this] at he
  rcases key _ _ _ e he with h | h
  · simp at h
  · simpa using h
theorem Tame.real {α : Type} {p : Sem α} (ht : Tame P p) {γ : Gh} {w v v' : World} {a : α} (hv : Vt γ w v) (hr : p.run P v = .ok a v') :
    ∃ w', p.run P w = .ok a w' ∧ Vt (γ.grow w.heap.size w'.heap.size) w' v' ∧ ∀ fn, Dg γ w w' (seen P fn (p.events P w #[])) := by
  obtain ⟨w', es', q1, q2, q3⟩ := Tame.sim P p ht (es := #[]) hv hr
  refine ⟨w', ?_, q2, fun fn => ?_⟩
  · have := Sem.runT_fst P p w #[]
    rw [q1] at this
    exact this.symm
  · have he : p.events P w #[] = es' := by
      unfold Sem.events
      rw [q1]; simp
    rw [he]
    exact ⟨q3.size, q3.keep, q3.os, q3.output, q3.tape, fun e h => q3.acc e (seen_sub P fn es' e h)⟩
section
variable {b : Frame} {a : Act} {k : List Item} {cs : List Frame} {ops : Array Oper} {i : Nat} {rest : List Nat} {o : Oper} {v v' : World}
theorem SimAt.value {x : Value} (ho : ops[i]? = some o) (hw : Region.wanted o (yielded ops a.tmps) = true) (hk : b.kind ≠ .early) (ht : Tame P (execOp a.eval o)) (hr : (execOp a.eval o).run P v = .ok (.value x) v') :
    SimAt P main (G (b.at a (.inRegion ops (i :: rest) :: k)) cs) v (G (b.at (a.put o.dst x) (.inRegion ops rest :: k)) cs) v' := .mk fun {γ w} hv hI => by
  obtain ⟨w', q1, q2, q3⟩ := ht.real hv hr
  exact ⟨w', _, stepG_value ho hw hk q1, q2, q3 _⟩
theorem SimAt.skip (ho : ops[i]? = some o) (hw : Region.wanted o (yielded ops a.tmps) = true) (hk : b.kind ≠ .early) (ht : Tame P (execOp a.eval o)) (hr : (execOp a.eval o).run P v = .ok .skip v') :
    SimAt P main (G (b.at a (.inRegion ops (i :: rest) :: k)) cs) v (G (b.at (a.put o.dst undef) (.inRegion ops rest :: k)) cs) v' := .mk fun {γ w} hv hI => by
  obtain ⟨w', q1, q2, q3⟩ := ht.real hv hr
  exact ⟨w', _, stepG_none ho hw hk q1, q2, q3 _⟩
theorem SimAt.enter {f : FuncId} {args : Array Value} (ho : ops[i]? = some o) (hw : Region.wanted o (yielded ops a.tmps) = true) (hk : b.kind ≠ .early) (ht : Tame P (execOp a.eval o)) (hr : (execOp a.eval o).run P v = .ok (.enter f args) v') :
    SimAt P main (G (b.at a (.inRegion ops (i :: rest) :: k)) cs) v (G (Frame.enter P f args .normal) (b.at a (.inRegion ops (i :: rest) :: k) :: cs)) v' := .mk fun {γ w} hv hI => by
  obtain ⟨w', q1, q2, q3⟩ := ht.real hv hr
  exact ⟨w', _, stepG_enter ho hw hk q1, q2, q3 _⟩
theorem leaveE {w : World} {fn : Func} {todo : List Item} {c : Frame} {x : Value} (hn : b.kind = .normal) (hd : a.defers = []) (hf : P.funcs[b.fn]? = some fn) {w' : World} (hr : (results fn a.tmps).run P w = .ok x w') :
    stepG P main.main (G { b.at a todo with mode := .returning } (c :: cs)) w = .go (G (c.finish x) cs) w' (seen P b.fn ((results fn a.tmps).events P w #[])) := by
  simp [G, stepG, unwind, doReturn, Frame.at, hn, hd, hf, hr, seen, GStep.after]
theorem SimAt.leave {fn : Func} {todo : List Item} {c : Frame} {x : Value} (hn : b.kind = .normal) (hd : a.defers = []) (hf : P.funcs[b.fn]? = some fn) (ht : Tame P (results fn a.tmps)) (hr : (results fn a.tmps).run P v = .ok x v') :
    SimAt P main (G { b.at a todo with mode := .returning } (c :: cs)) v (G (c.finish x) cs) v' := .mk fun {γ w} hv hI => by
  obtain ⟨w', q1, q2, q3⟩ := ht.real hv hr
  exact ⟨w', _, leaveE hn hd hf q1, q2, q3 _⟩
end
end

inductive Vway (P : Program) (main : Cx) (Stop : Goroutine → World → Prop) : Goroutine → World → Prop
  | stop {g : Goroutine} {w : World} (h : ∀ w₁, Itf w w₁ → Stop g w₁) : Vway P main Stop g w
  | step {g : Goroutine} {w : World} (hs : g.status = .running) (f : World → Goroutine × World) (he : ∀ w₁, Itf w w₁ → SimAt P main g w₁ (f w₁).1 (f w₁).2)
      (hg : ∀ w₁, Itf w w₁ → Vway P main Stop (f w₁).1 (f w₁).2) : Vway P main Stop g w
section
variable {P : Program} {main : Cx} {Stop : Goroutine → World → Prop}
theorem Vway.go {g : Goroutine} {w : World} (hs : g.status = .running) (h : ∀ w₁, Itf w w₁ → ∃ g' w', SimAt P main g w₁ g' w' ∧ Vway P main Stop g' w') : Vway P main Stop g w := by
  have key : ∀ w₁, ∃ x : Goroutine × World, Itf w w₁ → SimAt P main g w₁ x.1 x.2 ∧ Vway P main Stop x.1 x.2 := fun w₁ => by
    by_cases hr : Itf w w₁
    · obtain ⟨g', w', q1, q2⟩ := h w₁ hr
      exact ⟨(g', w'), fun _ => ⟨q1, q2⟩⟩
    · exact ⟨(g, w), fun q => absurd q hr⟩
  exact .step hs (fun w₁ => (key w₁).choose) (fun w₁ hr => ((key w₁).choose_spec hr).1) fun w₁ hr => ((key w₁).choose_spec hr).2
theorem Vway.rely {g : Goroutine} {w w₁ : World} (h : Vway P main Stop g w) (hr : Itf w w₁) : Vway P main Stop g w₁ := by
  cases h with
  | stop h => exact .stop fun w₂ h₂ => h w₂ (hr.trans h₂)
  | step hs f he hg => exact .step hs f (fun w₂ h₂ => he w₂ (hr.trans h₂)) fun w₂ h₂ => hg w₂ (hr.trans h₂)
theorem Vway.idle {g g' : Goroutine} {w : World} (hs : g.status = .running) (h : ∀ w, main.I w → stepG P main.main g w = .go g' w #[]) (hn : Vway P main Stop g' w) : Vway P main Stop g w :=
  .go hs fun w₁ h₁ => ⟨g', w₁, .idle h, hn.rely h₁⟩
theorem Vway.mono {Stop' : Goroutine → World → Prop} (hm : ∀ g w, Stop g w → Stop' g w) {g : Goroutine} {w : World} (h : Vway P main Stop g w) : Vway P main Stop' g w := by
  induction h with
  | stop h => exact .stop fun w₁ h₁ => hm _ _ (h w₁ h₁)
  | step hs f he hg ih => exact .step hs f he ih

def Aft (P : Program) (main : Cx) (Stop : Goroutine → World → Prop) (b : Frame) (k : List Item) (cs : List Frame) : Exit → Act → World → Prop
  | .normal, a, w => Vway P main Stop (G (b.at a k) cs) w
  | .exit id, a, w => ∃ k', exitTo id k = some k' ∧ Vway P main Stop (G (b.at a k') cs) w
  | .ret, a, w => ∀ todo, Vway P main Stop (G { b.at a todo with mode := .returning } cs) w
  | _, _, _ => False
theorem Aft.push {b : Frame} {x : Item} {k : List Item} {cs : List Frame} {e : Exit} {a : Act} {w : World} (hx : x.plain = true) (he : e ≠ .normal) (h : Aft P main Stop b k cs e a w) : Aft P main Stop b (x :: k) cs e a w := by
  cases e with
  | normal => exact absurd rfl he
  | exit id => obtain ⟨k', hk, hg⟩ := h; exact ⟨k', by cases x <;> simp_all [exitTo, Item.plain], hg⟩
  | ret => exact h
  | goto l => exact h
  | panic ch => exact h
  | outgrown => exact h
end

def wpV (P : Program) (main : Cx) (c : Code) (Q : Exit → Act → World → Prop) (a : Act) (w : World) : Prop :=
  ∀ (b : Frame) (k : List Item) (cs : List Frame) (Stop : Goroutine → World → Prop), b.kind ≠ .early →
    (∀ e a' w', Q e a' w' → Aft P main Stop b k cs e a' w') → Vway P main Stop (G (b.at a (.code c :: k)) cs) w
def opsV (P : Program) (main : Cx) (ops : Array Oper) (Q : Exit → Act → World → Prop) (todo : List Nat) (a : Act) (w : World) : Prop :=
  ∀ (b : Frame) (k : List Item) (cs : List Frame) (Stop : Goroutine → World → Prop), b.kind ≠ .early →
    (∀ e a' w', Q e a' w' → Aft P main Stop b k cs e a' w') → Vway P main Stop (G (b.at a (.inRegion ops todo :: k)) cs) w

def opV (P : Program) (main : Cx) (ops : Array Oper) (i : Nat) (K : Act → World → Prop) (a : Act) (w : World) : Prop :=
  ∀ (rest : List Nat) (Q : Exit → Act → World → Prop), (∀ a' w', K a' w' → opsV P main ops Q rest a' w') → opsV P main ops Q (i :: rest) a w

def endV (P : Program) (fn : Func) (R : Ending → World → Prop) : Exit → Act → World → Prop
  | .normal, a, w | .ret, a, w => a.defers = [] ∧ Tame P (results fn a.tmps) ∧ ∀ w₁, Itf w w₁ → ∃ v, (results fn a.tmps).run P w₁ = .ok v w₁ ∧ R (.returned v) w₁
  | _, _, _ => False

def CallsV (P : Program) (f : FuncId) (args : Array Value) (w : World) (R : Ending → World → Prop) : Prop :=
  ∃ fn c, P.funcs[f]? = some fn ∧ (fn.name == "runtime.NumGoroutine") = false ∧ fn.body = some c ∧ ∀ main, wpV P main c (endV P fn R) { tmps := args ++ Array.replicate (fn.ntmps - args.size) undef, defers := [] } w

def RunsV (P : Program) (r : Result Next) (Φ : Value → World → Prop) : Prop :=
  match r with
  | .ok (.value v) w' => Φ v w'
  | .ok .skip w' => Φ undef w'
  | .ok (.enter f args) w' => CallsV P f args w' fun e w'' => ∃ v, e = .returned v ∧ Φ v w''
  | _ => False
section
variable {P : Program} {main : Cx} {Q : Exit → Act → World → Prop} {a : Act} {w : World}
theorem wpV_mono {c : Code} {Q' : Exit → Act → World → Prop} (h : wpV P main c Q a w) (hq : ∀ e a w, Q e a w → Q' e a w) : wpV P main c Q' a w :=
  fun b k cs Stop hk hc => h b k cs Stop hk fun e a' w' q => hc e a' w' (hq e a' w' q)
theorem wpV_skip (h : Q .normal a w) : wpV P main .skip Q a w := fun b k cs Stop _ hc => .idle rfl (fun _ _ => stepG_skip) (hc _ _ _ h)
theorem wpV_ret (h : Q .ret a w) : wpV P main .ret Q a w := fun b k cs Stop _ hc => .idle rfl (fun _ _ => stepG_ret') (hc _ _ _ h _)
theorem wpV_exit {id : Nat} (h : Q (.exit id) a w) : wpV P main (.exit id) Q a w := fun b k cs Stop _ hc => by
  obtain ⟨k', hk', hg⟩ := hc _ _ _ h
  exact .idle rfl (fun _ _ => stepG_exit hk') hg
theorem wpV_seq {x y : Code} (h : wpV P main x (Exit.then (fun a' w' => wpV P main y Q a' w') Q) a w) : wpV P main (.seq x y) Q a w := by
  intro b k cs Stop hk hc
  refine .idle rfl (fun _ _ => stepG_seq) (h b (.code y :: k) cs Stop hk fun e a' w' q => ?_)
  cases e with
  | normal => exact q b k cs Stop hk hc
  | exit id => exact Aft.push rfl (by simp) (hc _ _ _ q)
  | ret => exact Aft.push (x := .code y) rfl (by simp) (hc _ _ _ q)
  | goto l => exact hc _ _ _ q
  | panic ch => exact hc _ _ _ q
  | outgrown => exact hc _ _ _ q
theorem wpV_cond_true {c : Operand} {x y : Code} (hc : a.eval c = .bool true) (h : wpV P main x Q a w) : wpV P main (.cond c x y) Q a w :=
  fun b k cs Stop hk hq => .idle rfl (fun _ _ => stepG_cond hc) (h b k cs Stop hk hq)
theorem wpV_cond_false {c : Operand} {x y : Code} (hc : a.eval c = .bool false) (h : wpV P main y Q a w) : wpV P main (.cond c x y) Q a w :=
  fun b k cs Stop hk hq => .idle rfl (fun _ _ => stepG_cond hc) (h b k cs Stop hk hq)
theorem wpV_block {id : Nat} {c : Code} (h : wpV P main c (Exit.inBlock id Q) a w) : wpV P main (.block id c) Q a w := by
  intro b k cs Stop hk hc
  refine .idle rfl (fun _ _ => stepG_block) (h b (.inBlock id :: k) cs Stop hk fun e a' w' q => ?_)
  cases e with
  | normal => exact .idle rfl (fun _ _ => stepG_inBlock) (hc _ _ _ q)
  | exit id' =>
    by_cases hid : id' = id
    · simp only [Exit.inBlock, hid, if_true] at q
      exact ⟨k, by simp [exitTo, hid], hc _ _ _ q⟩
    · simp only [Exit.inBlock, hid, if_false] at q
      obtain ⟨k', hk', hg⟩ := hc _ _ _ q
      have : (id == id') = false := by simp; exact fun h => hid h.symm
      exact ⟨k', by simp [exitTo, this, hk'], hg⟩
  | ret => exact fun todo => hc _ _ _ q todo
  | goto l => exact hc _ _ _ q
  | panic ch => exact hc _ _ _ q
  | outgrown => exact hc _ _ _ q

theorem wpV_loop {c : Code} (I : Nat → Act → World → Prop) (n : Nat) (h₀ : I n a w)
    (round : ∀ n a w, I n a w → wpV P main c (Exit.then (fun a' w' => ∃ n', n' < n ∧ I n' a' w') Q) a w) : wpV P main (.loop c) Q a w := by
  intro b k cs Stop hk hc
  have key : ∀ n a w, I n a w → Vway P main Stop (G (b.at a (.code c :: .inLoop c :: k)) cs) w := by
    intro n
    induction n using Nat.strongRecOn with
    | _ n ih =>
      intro a w hI
      refine round n a w hI b (.inLoop c :: k) cs Stop hk fun e a' w' q => ?_
      cases e with
      | normal => obtain ⟨n', hn, q⟩ := q; exact .idle rfl (fun _ _ => stepG_inLoop) (ih n' hn a' w' q)
      | exit id => exact Aft.push rfl (by simp) (hc _ _ _ q)
      | ret => exact Aft.push (x := .inLoop c) rfl (by simp) (hc _ _ _ q)
      | goto l => exact hc _ _ _ q
      | panic ch => exact hc _ _ _ q
      | outgrown => exact hc _ _ _ q
  exact .idle rfl (fun _ _ => stepG_loop) (key n a w h₀)
theorem wpV_region {id : Nat} {ops : Array Oper} (h : opsV P main ops Q (List.range ops.size) a w) : wpV P main (.region id ops false) Q a w :=
  fun b k cs Stop hk hc => .idle rfl (fun _ _ => stepG_region) (h b k cs Stop hk hc)
theorem opsV_nil {ops : Array Oper} (h : Q .normal a w) : opsV P main ops Q [] a w := fun b k cs Stop _ hc => .idle rfl (fun _ _ => stepG_region_end) (hc _ _ _ h)
theorem opsV_cons {ops : Array Oper} {i : Nat} {rest : List Nat} (h : opV P main ops i (fun a' w' => opsV P main ops Q rest a' w') a w) : opsV P main ops Q (i :: rest) a w :=
  h rest Q fun a' w' q => q
theorem opV_skip {ops : Array Oper} {i : Nat} {o : Oper} {K : Act → World → Prop} (ho : ops[i]? = some o) (hw : Region.wanted o (yielded ops a.tmps) = false) (h : K (a.put o.dst undef) w) : opV P main ops i K a w :=
  fun rest Q hn b k cs Stop hk hc => .idle rfl (fun _ _ => stepG_unwanted ho hw) (hn _ _ h b k cs Stop hk hc)
theorem CallsV.mono {f : FuncId} {args : Array Value} {R R' : Ending → World → Prop} (h : CallsV P f args w R) (hr : ∀ e w', R e w' → R' e w') : CallsV P f args w R' := by
  obtain ⟨fn, c, hf, hn, hb, hw⟩ := h
  refine ⟨fn, c, hf, hn, hb, fun main => wpV_mono (hw main) fun e a w q => ?_⟩
  cases e <;> first | exact q.elim | exact ⟨q.1, q.2.1, fun w₁ h₁ => (q.2.2 w₁ h₁).elim fun v x => ⟨v, x.1, hr _ _ x.2⟩⟩
theorem RunsV.mono {r : Result Next} {Φ Ψ : Value → World → Prop} (h : RunsV P r Φ) (hm : ∀ v w, Φ v w → Ψ v w) : RunsV P r Ψ := by
  cases r with
  | halt x w' => exact h.elim
  | ok n w' =>
    cases n <;> simp only [RunsV] at h ⊢ <;> first | exact h.elim | exact hm _ _ h | exact h.mono fun e w'' ⟨v, he, hv⟩ => ⟨v, he, hm _ _ hv⟩

theorem Vway.body {f : FuncId} {args : Array Value} {R : Ending → World → Prop} {c : Frame} {cs : List Frame} {Stop : Goroutine → World → Prop} (h : CallsV P f args w R)
    (hnext : ∀ v w', R (.returned v) w' → Vway P main Stop (G (c.finish v) cs) w') : Vway P main Stop (G (Frame.enter P f args .normal) (c :: cs)) w := by
  obtain ⟨fn, cd, hf, hname, hbody, hwp⟩ := h
  have hleave : ∀ (a' : Act) (w' : World) (todo : List Item), (a'.defers = [] ∧ Tame P (results fn a'.tmps) ∧ ∀ w₁, Itf w' w₁ → ∃ v, (results fn a'.tmps).run P w₁ = .ok v w₁ ∧ R (.returned v) w₁) →
      Vway P main Stop (G { (base f).at a' todo with mode := .returning } (c :: cs)) w' := by
    rintro a' w' todo ⟨hd, ht, hr⟩
    refine .go rfl fun w₁ h₁ => ?_
    obtain ⟨v, hr, hp⟩ := hr w₁ h₁
    exact ⟨_, w₁, .leave (b := base f) rfl hd hf ht hr, hnext v w₁ hp⟩
  rw [enter_at _ hf hbody]
  refine hwp main (base f) [] _ Stop (by simp [base]) fun e a' w' q => ?_
  cases e with
  | normal => exact .idle rfl (fun _ _ => stepG_end) (hleave a' w' [] q)
  | ret => exact fun todo => hleave a' w' todo q
  | exit id => exact q.elim
  | goto l => exact q.elim
  | panic ch => exact q.elim
  | outgrown => exact q.elim

theorem opV_run {ops : Array Oper} {i : Nat} {o : Oper} {K : Act → World → Prop} (ho : ops[i]? = some o) (hw : Region.wanted o (yielded ops a.tmps) = true) (ht : Tame P (execOp a.eval o))
    (h : ∀ w₁, Itf w w₁ → RunsV P ((execOp a.eval o).run P w₁) fun v w' => K (a.put o.dst v) w') : opV P main ops i K a w := by
  intro rest Q hn b k cs Stop hk hc
  have hfin : ∀ v, (b.at a (.inRegion ops (i :: rest) :: k)).finish v = b.at (a.put o.dst v) (.inRegion ops rest :: k) := fun v => by rw [Frame.finish_at, ho]; rfl
  refine .go rfl fun w₁ h₁ => ?_
  have := h w₁ h₁
  generalize hr : (execOp a.eval o).run P w₁ = r at this
  cases r with
  | halt x w' => exact this.elim
  | ok n w' =>
    cases n <;> simp only [RunsV] at this <;> first | exact this.elim | skip
    case value v => exact ⟨_, _, .value ho hw hk ht hr, hn _ _ this b k cs Stop hk hc⟩
    case skip => exact ⟨_, _, .skip ho hw hk ht hr, hn _ _ this b k cs Stop hk hc⟩
    case enter f args =>
      refine ⟨_, _, .enter ho hw hk ht hr, Vway.body this fun v w'' ⟨v', he, hv⟩ => ?_⟩
      cases he
      rw [hfin]
      exact hn _ _ hv b k cs Stop hk hc
end

section
variable {P : Program} {main : Cx} {ops : Array Oper} {Q : Exit → Act → World → Prop} {md : Region.Mode}
def anyV (P : Program) (main : Cx) (md : Region.Mode) (ops : Array Oper) (Q : Exit → Act → World → Prop) : Nat → Array Bool → Act → World → Prop
  | 0, listed, a, w => Region.ready md ops listed = [] ∧ Q .normal a w
  | fuel + 1, listed, a, w =>
    (Region.ready md ops listed = [] → Q .normal a w) ∧
    ∀ i ∈ Region.ready md ops listed, opV P main ops i (fun a' w' => anyV P main md ops Q fuel (listed.setIfInBounds i true) a' w') a w
theorem anyV_sound : ∀ (fuel t : Nat) (listed : Array Bool) (a : Act) (w : World), anyV P main md ops Q fuel listed a w →
    opsV P main ops Q (Region.linearise.go md ops fuel t listed []) a w := by
  intro fuel
  induction fuel with
  | zero => intro t listed a w h; simpa [Region.linearise.go] using opsV_nil h.2
  | succ fuel ih =>
    intro t listed a w h
    obtain ⟨h₀, h₁⟩ := h
    simp only [Region.linearise.go]
    change opsV P main ops Q (match (Region.ready md ops listed)[t % (Region.ready md ops listed).length]? with
      | some i => Region.linearise.go md ops fuel (t / (Region.ready md ops listed).length) (listed.setIfInBounds i true) [i]
      | none => [].reverse) a w
    cases hi : (Region.ready md ops listed)[t % (Region.ready md ops listed).length]? with
    | none =>
      have hnil : Region.ready md ops listed = [] := by
        cases hr : Region.ready md ops listed with
        | nil => rfl
        | cons x xs =>
          rw [hr] at hi
          have hlt : t % (x :: xs).length < (x :: xs).length := Nat.mod_lt _ (by simp)
          simp at hi
          simp at hlt
          omega
      simpa using opsV_nil (h₀ hnil)
    | some i =>
      simp only []
      rw [linearise_go_acc, List.reverse_singleton, List.singleton_append]
      exact h₁ i (List.mem_of_getElem? hi) _ Q fun a' w' x => ih _ _ a' w' x
theorem wpV_region_any {id : Nat} {a : Act} {w : World} (hm : P.follows .mixedOrders = true)
    (h : ∀ w₁, Itf w w₁ → anyV P main .any ops Q ops.size (Array.replicate ops.size false) a { w₁ with drawn := w₁.drawn + 1 }) : wpV P main (.region id ops true) Q a w :=
  fun b k cs Stop hk hc => .go rfl fun w₁ h₁ => by
    have := anyV_sound ops.size (w₁.tape w₁.drawn (.order b.fn id)) _ a _ (h w₁ h₁) b k cs Stop hk hc
    refine ⟨_, _, .draw (fun w e1 e2 => ?_), this⟩
    rw [stepG_region_draw, e1, e2]
    simp only [Region.schedule, hm, Bool.true_or, if_true, Region.linearise]
end
end Go.Vk
end
section
namespace Go.Vk
open Go.Conc

inductive Tr : Type
  | leaf
  | mk (f : World → Tr)
def Tr.lt (t' t : Tr) : Prop := ∃ f x, t = .mk f ∧ t' = f x
theorem Tr.acc : ∀ t : Tr, Acc Tr.lt t
  | .leaf => ⟨_, fun t' ⟨f, x, h, _⟩ => by cases h⟩
  | .mk f => ⟨_, fun t' ⟨f', x, h, e⟩ => by cases h; rw [e]; exact Tr.acc (f x)⟩
def Tr.ofNat : Nat → Tr
  | 0 => .leaf
  | n + 1 => .mk fun _ => Tr.ofNat n
theorem Tr.ofNat_lt (n : Nat) : Tr.lt (Tr.ofNat n) (Tr.ofNat (n + 1)) := ⟨_, default, rfl, rfl⟩


inductive Ls : List Tr → List Tr → Prop
  | hd {t' t : Tr} {l : List Tr} (h : Tr.lt t' t) : Ls (t' :: l) (t :: l)
  | tl {t : Tr} {l' l : List Tr} (h : Ls l' l) : Ls (t :: l') (t :: l)
theorem Ls.acc : ∀ l : List Tr, Acc Ls l
  | [] => ⟨_, fun l' h => by cases h⟩
  | t :: l => by
    have h1 := Tr.acc t
    have h2 := Ls.acc l
    induction h1 generalizing l with
    | intro t _ ih1 =>
      induction h2 with
      | intro l hl ih2 =>
        refine ⟨_, fun l' h => ?_⟩
        cases h with
        | hd h => exact ih1 _ h l ⟨_, hl⟩
        | tl h => exact ih2 _ h

structure Mu where
  S : Nat
  L : List Tr
  b : Nat
def Mu.lt (μ' μ : Mu) : Prop := μ'.S < μ.S ∨ (μ'.S = μ.S ∧ (Ls μ'.L μ.L ∨ (μ'.L = μ.L ∧ μ'.b < μ.b)))
theorem Mu.wf : WellFounded Mu.lt := by
  refine ⟨fun μ => ?_⟩
  obtain ⟨S, L, b⟩ := μ
  induction S using Nat.strongRecOn generalizing L b with
  | _ S ihS =>
    have hL := Ls.acc L
    induction hL generalizing b with
    | intro L _ ihL =>
      induction b using Nat.strongRecOn with
      | _ b ihb =>
        refine ⟨_, fun μ' h => ?_⟩
        obtain ⟨S', L', b'⟩ := μ'
        rcases h with h | ⟨h, h' | ⟨h', h''⟩⟩
        · exact ihS S' h L' b'
        · simp only at h; subst h; exact ihL L' h' b'
        · simp only at h h' h''; subst h; subst h'; exact ihb b' h''
theorem Ls.upd {f : Nat → Tr} {j : Nat} {t : Tr} : ∀ {N : Nat}, j < N → Tr.lt t (f j) → Ls ((List.range N).map fun i => if i = j then t else f i) ((List.range N).map f) := by
  have key : ∀ (N s : Nat), s ≤ j → j < s + N → Tr.lt t (f j) → Ls ((List.range' s N).map fun i => if i = j then t else f i) ((List.range' s N).map f) := by
    intro N
    induction N with
    | zero => intro s h1 h2; omega
    | succ N ih =>
      intro s h1 h2 h
      simp only [List.range'_succ, List.map_cons]
      by_cases e : s = j
      · subst e
        rw [if_pos rfl]
        have : ((List.range' (s + 1) N).map fun i => if i = s then t else f i) = (List.range' (s + 1) N).map f := by
          refine List.map_congr_left fun i hi => ?_
          have := (List.mem_range'_1.1 hi).1
          rw [if_neg (by omega)]
        rw [this]
        exact .hd h
      · rw [if_neg e]
        exact .tl (ih (s + 1) (by omega) (by omega) h)
  intro N hj h
  have := key N 0 (by omega) (by omega) h
  simpa [List.range_eq_range'] using this
theorem sum_upd {f : Nat → Nat} {j x : Nat} : ∀ {N : Nat}, j < N → ((List.range N).map fun i => if i = j then x else f i).sum + f j = ((List.range N).map f).sum + x := by
  intro N
  induction N with
  | zero => intro h; omega
  | succ N ih =>
    intro h
    rw [List.range_succ, List.map_append, List.map_append, List.sum_append, List.sum_append]
    simp only [List.map_cons, List.map_nil, List.sum_cons, List.sum_nil, Nat.add_zero]
    by_cases e : N = j
    · subst e
      have : ((List.range N).map fun i => if i = N then x else f i) = (List.range N).map f := by
        refine List.map_congr_left fun i hi => ?_
        have := List.mem_range.1 hi
        rw [if_neg (by omega)]
      rw [this, if_pos rfl]
      omega
    · rw [if_neg e]
      have := ih (by omega)
      omega


def VwT (P : Program) (cx : Cx) (S : Goroutine → World → Prop) : Tr → Goroutine → World → Prop
  | .leaf, g, v => ∀ v₁, Itf v v₁ → S g v₁
  | .mk f, g, v => g.status = .running ∧ ∀ v₁, Itf v v₁ → ∃ g' v', SimAt P cx g v₁ g' v' ∧ VwT P cx S (f v₁) g' v'
section
variable {P : Program} {cx : Cx} {S : Goroutine → World → Prop}
theorem Vway.rank {g : Goroutine} {v : World} (h : Vway P cx S g v) : ∃ T, VwT P cx S T g v := by
  induction h with
  | stop h => exact ⟨.leaf, h⟩
  | @step g w hs f he hg ih =>
    have key : ∀ v₁, ∃ T, Itf w v₁ → VwT P cx S T (f v₁).1 (f v₁).2 := fun v₁ => by
      by_cases hr : Itf w v₁
      · obtain ⟨T, hT⟩ := ih v₁ hr; exact ⟨T, fun _ => hT⟩
      · exact ⟨.leaf, fun q => absurd q hr⟩
    exact ⟨.mk fun v₁ => (key v₁).choose, hs, fun v₁ hr => ⟨_, _, he v₁ hr, (key v₁).choose_spec hr⟩⟩
theorem VwT.rely : ∀ {T : Tr} {g : Goroutine} {v v₁ : World}, VwT P cx S T g v → Itf v v₁ → VwT P cx S T g v₁
  | .leaf, g, v, v₁, h, hr => fun v₂ h₂ => h v₂ (hr.trans h₂)
  | .mk f, g, v, v₁, h, hr => ⟨h.1, fun v₂ h₂ => h.2 v₂ (hr.trans h₂)⟩
end
end Go.Vk
end
section
namespace Go.Vk
open Go.Conc Go.RowKit Go.Conc.Lib
open Go.ConcR (KK wgBlock WgAt stA smA rd wr mk)
open Go.ConcN (WgLive)

structure Back (P : Program) (main : Bool) (J : World → Prop) (Z : Goroutine → Prop) : Prop where
  ctl : ∀ {g g' : Goroutine}, g.status = .running → (∀ w, J w → stepG P main g w = .go g' w #[]) → Z g' → Z g
theorem Vway.back {P : Program} {cx : Cx} {S : Goroutine → World → Prop} {v : World} : Back P cx.main cx.I fun g => Vway P cx S g v := ⟨fun hs h hz => .idle hs h hz⟩
theorem quits_back {P : Program} {d : Nat} : Back P false (fun _ => True) fun g => ∃ q, QuitsD P q d g := ⟨fun hs h ⟨q, hz⟩ => ⟨q + 1, .ctl hs (fun w => h w trivial) hz⟩⟩
section
variable {P : Program} {main : Bool} {J : World → Prop} {Z : Goroutine → Prop} {b : Frame} {a : Act} {k : List Item} {cs : List Frame}
theorem Back.seq (hZ : Back P main J Z) {x y : Code} (h : Z (G (b.at a (.code x :: .code y :: k)) cs)) : Z (G (b.at a (.code (.seq x y) :: k)) cs) := hZ.ctl rfl (fun _ _ => stepG_seq) h
theorem Back.rend (hZ : Back P main J Z) {ops : Array Oper} (h : Z (G (b.at a k) cs)) : Z (G (b.at a (.inRegion ops [] :: k)) cs) := hZ.ctl rfl (fun _ _ => stepG_region_end) h
theorem Back.skip (hZ : Back P main J Z) (h : Z (G (b.at a k) cs)) : Z (G (b.at a (.code .skip :: k)) cs) := hZ.ctl rfl (fun _ _ => stepG_skip) h
theorem Back.block (hZ : Back P main J Z) {id : Nat} {c : Code} (h : Z (G (b.at a (.code c :: .inBlock id :: k)) cs)) : Z (G (b.at a (.code (.block id c) :: k)) cs) := hZ.ctl rfl (fun _ _ => stepG_block) h
theorem Back.loop (hZ : Back P main J Z) {c : Code} (h : Z (G (b.at a (.code c :: .inLoop c :: k)) cs)) : Z (G (b.at a (.code (.loop c) :: k)) cs) := hZ.ctl rfl (fun _ _ => stepG_loop) h
theorem Back.inLoop (hZ : Back P main J Z) {c : Code} (h : Z (G (b.at a (.code c :: .inLoop c :: k)) cs)) : Z (G (b.at a (.inLoop c :: k)) cs) := hZ.ctl rfl (fun _ _ => stepG_inLoop) h
theorem Back.inBlock (hZ : Back P main J Z) {id : Nat} (h : Z (G (b.at a k) cs)) : Z (G (b.at a (.inBlock id :: k)) cs) := hZ.ctl rfl (fun _ _ => stepG_inBlock) h
theorem Back.ret (hZ : Back P main J Z) (h : Z (G { b.at a (.code .ret :: k) with mode := .returning } cs)) : Z (G (b.at a (.code .ret :: k)) cs) := hZ.ctl rfl (fun _ _ => stepG_ret') h
theorem Back.fin (hZ : Back P main J Z) (h : Z (G { b.at a [] with mode := .returning } cs)) : Z (G (b.at a []) cs) := hZ.ctl rfl (fun _ _ => stepG_end) h
theorem Back.exit (hZ : Back P main J Z) {id : Nat} {k' : List Item} (he : exitTo id k = some k') (h : Z (G (b.at a k') cs)) : Z (G (b.at a (.code (.exit id) :: k)) cs) := hZ.ctl rfl (fun _ _ => stepG_exit he) h
theorem Back.condT (hZ : Back P main J Z) {c : Operand} {x y : Code} (hc : a.eval c = .bool true) (h : Z (G (b.at a (.code x :: k)) cs)) : Z (G (b.at a (.code (.cond c x y) :: k)) cs) := hZ.ctl rfl (fun _ _ => stepG_cond hc) h
theorem Back.condF (hZ : Back P main J Z) {c : Operand} {x y : Code} (hc : a.eval c = .bool false) (h : Z (G (b.at a (.code y :: k)) cs)) : Z (G (b.at a (.code (.cond c x y) :: k)) cs) := hZ.ctl rfl (fun _ _ => stepG_cond hc) h
theorem Back.region (hZ : Back P main J Z) {id : Nat} {ops : Array Oper} (h : Z (G (b.at a (.inRegion ops (List.range ops.size) :: k)) cs)) : Z (G (b.at a (.code (.region id ops false) :: k)) cs) := hZ.ctl rfl (fun _ _ => stepG_region) h
theorem Back.defer (hZ : Back P main J Z) {ops : Array Oper} {i : Nat} {rest : List Nat} {o : Oper} {f : FuncId} {as : Array Operand} {ats : Array TypeId} (ho : ops[i]? = some o) (hw : Region.wanted o (yielded ops a.tmps) = true) (hk : b.kind ≠ .early)
    (hop : o.op = .defer { callee := .value (.func f), args := as, argTypes := ats }) (h : Z (G (b.at (Act.put ⟨a.tmps, dcall f (as.map a.eval) :: a.defers⟩ o.dst undef) (.inRegion ops rest :: k)) cs)) : Z (G (b.at a (.inRegion ops (i :: rest) :: k)) cs) :=
  hZ.ctl rfl (fun _ _ => stepG_defer ho hw hk hop) h
theorem Back.value (hZ : Back P main J Z) {ops : Array Oper} {i : Nat} {rest : List Nat} {o : Oper} {v : Value} (ho : ops[i]? = some o) (hw : Region.wanted o (yielded ops a.tmps) = true) (hk : b.kind ≠ .early)
    (hr : ∀ w, J w → (execOp a.eval o).run P w = .ok (.value v) w) (he : ∀ w, J w → (execOp a.eval o).events P w #[] = #[])
    (hq : Z (G (b.at (a.put o.dst v) (.inRegion ops rest :: k)) cs)) : Z (G (b.at a (.inRegion ops (i :: rest) :: k)) cs) :=
  hZ.ctl rfl (fun w hJ => by rw [stepG_value ho hw hk (hr w hJ)]; unfold listed; rw [he w hJ, seen_none]) hq
theorem Back.unwanted (hZ : Back P main J Z) {ops : Array Oper} {i : Nat} {rest : List Nat} {o : Oper} (ho : ops[i]? = some o) (hw : Region.wanted o (yielded ops a.tmps) = false)
    (hq : Z (G (b.at (a.put o.dst undef) (.inRegion ops rest :: k)) cs)) : Z (G (b.at a (.inRegion ops (i :: rest) :: k)) cs) := hZ.ctl rfl (fun _ _ => stepG_unwanted ho hw) hq
theorem Back.call (hZ : Back P main J Z) {ops : Array Oper} {i : Nat} {rest : List Nat} {o : Oper} {f : FuncId} {fn : Func} {c : Code} {args : Array Operand} {ats : Array TypeId}
    (ho : ops[i]? = some o) (hw : Region.wanted o (yielded ops a.tmps) = true) (hk : b.kind ≠ .early) (hop : o.op = .call { callee := .value (.func f), args, argTypes := ats })
    (hf : P.funcs[f]? = some fn) (hname : (fn.name == "runtime.NumGoroutine") = false) (hb : fn.body = some c)
    (hq : Z (G ((base f).at { tmps := args.map a.eval ++ Array.replicate (fn.ntmps - (args.map a.eval).size) undef, defers := [] } [.code c]) (b.at a (.inRegion ops (i :: rest) :: k) :: cs))) :
    Z (G (b.at a (.inRegion ops (i :: rest) :: k)) cs) := by
  have hb' : fn.body.isNone = false := by rw [hb]; rfl
  refine hZ.ctl rfl (fun w _ => ?_) hq
  rw [stepG_enter ho hw hk (run_call_body hop hf hname hb'), enter_at _ hf hb]
  have : listed P b.fn a o w = #[] := by unfold listed; rw [events_call_body hop hf hname hb']; exact seen_none P _
  rw [this]
theorem Back.bub (hZ : Back P main J Z) {ops : Array Oper} {i : Nat} {rest : List Nat} {o : Oper} {f : FuncId} {fn : Func} {args : Array Operand} {ats : Array TypeId} (v : Value)
    (ho : ops[i]? = some o) (hw : Region.wanted o (yielded ops a.tmps) = true) (hk : b.kind ≠ .early) (hop : o.op = .call { callee := .value (.func f), args, argTypes := ats })
    (hf : P.funcs[f]? = some fn) (hname : (fn.name == "runtime.NumGoroutine") = false) (hb : fn.body.isNone = true) (hn : Extern.findNext fn = none) (he : Extern.find fn = some (fun _ => pure v))
    (hq : Z (G (b.at (a.put o.dst v) (.inRegion ops rest :: k)) cs)) : Z (G (b.at a (.inRegion ops (i :: rest) :: k)) cs) :=
  hZ.ctl rfl (fun w _ => by rw [stepG_entry_pure v ho hw hk hop hf hname hb hn he]) hq
section
variable {fn : Func} {todo : List Item} {b₀ : Frame} {a₀ : Act} {ops : Array Oper} {i : Nat} {rest : List Nat}
theorem Back.leave0 (hZ : Back P main J Z) (hn : b.kind = .normal) (hd : a.defers = []) (hf : P.funcs[b.fn]? = some fn) (hr : fn.results = #[])
    (hq : Z (G (b₀.at (a₀.put ((ops[i]?).bind (·.dst)) (.tuple #[])) (.inRegion ops rest :: k)) cs)) :
    Z (G { b.at a todo with mode := .returning } (b₀.at a₀ (.inRegion ops (i :: rest) :: k) :: cs)) :=
  hZ.ctl rfl (fun w _ => by rw [stepG_leave hn hd hf (results_none hr _ P w) (events_results_none hr _ _), Frame.finish_at]) hq
theorem Back.leave1 (hZ : Back P main J Z) {t : Tmp} (hn : b.kind = .normal) (hd : a.defers = []) (hf : P.funcs[b.fn]? = some fn) (hr : fn.results = #[.tmp t])
    (hq : Z (G (b₀.at (a₀.put ((ops[i]?).bind (·.dst)) (a.tmps.getD t undef)) (.inRegion ops rest :: k)) cs)) :
    Z (G { b.at a todo with mode := .returning } (b₀.at a₀ (.inRegion ops (i :: rest) :: k) :: cs)) :=
  hZ.ctl rfl (fun w _ => by rw [stepG_leave hn hd hf (results_tmp hr _ P w) (events_results_tmp hr _ _), Frame.finish_at]) hq
end
end

section
variable (P : Program) (main : Bool) (J : World → Prop) (ty : TypeId) (Wg : Nat)

def MarkAt (m : Mark) (K : Goroutine → Prop) (g : Goroutine) : Prop := g.status = .running ∧ ∃ g', (∀ w, J w → stepG P main g w = .go g' w #[mk m]) ∧ K g'

def AddAt (δ : Int) (D : Int → Prop) (K : Int → Goroutine → Prop) (g : Goroutine) : Prop :=
  g.status = .running ∧ ∀ x, D x → ∃ g', (∀ w sm, J w → WgAt ty Wg w x sm → stepG P main g w = .go g' (w.setCell (stA Wg) (.int .u64 (x + δ))) #[rd (stA Wg), wr (stA Wg)]) ∧ K (x + δ) g'
def LoadAt (D : Int → Prop) (K : Int → Goroutine → Prop) (g : Goroutine) : Prop :=
  g.status = .running ∧ ∀ x, D x → ∃ g', (∀ w sm, J w → WgAt ty Wg w x sm → stepG P main g w = .go g' w #[rd (stA Wg)]) ∧ K x g'
def StoreAt (y : Int) (K : Goroutine → Prop) (g : Goroutine) : Prop :=
  g.status = .running ∧ ∃ g', (∀ w x sm, J w → WgAt ty Wg w x sm → stepG P main g w = .go g' (w.setCell (stA Wg) (.int .u64 y)) #[wr (stA Wg)]) ∧ K g'
def SemrelAt (K : Goroutine → Prop) (g : Goroutine) : Prop :=
  g.status = .running ∧ mayWake P g = true ∧ ∃ g', (∀ w x, J w → WgAt ty Wg w x 0 → stepG P main g w = .go g' (w.setCell (smA Wg) (.int .u32 1)) (semEvents (smA Wg))) ∧ K g'
def CasAt (x0 : Int) (KH KM : Goroutine → Prop) (g : Goroutine) : Prop :=
  g.status = .running ∧ (∃ g', (∀ w sm, J w → WgAt ty Wg w x0 sm → stepG P main g w = .go g' (w.setCell (stA Wg) (.int .u64 (x0 + 1))) #[rd (stA Wg), wr (stA Wg)]) ∧ KH g') ∧
    ∃ g', (∀ w x sm, J w → x ≠ x0 → WgAt ty Wg w x sm → stepG P main g w = .go g' w #[rd (stA Wg)]) ∧ KM g'
def SemacqAt (K : Goroutine → Prop) (g : Goroutine) : Prop :=
  g.status = .running ∧ g.offers = none ∧ (∀ w x, J w → WgAt ty Wg w x 0 → stepG P main g w = .go { g with status := .blocked } w #[]) ∧
    ∃ g', (∀ w x, J w → WgAt ty Wg w x 1 → stepG P main g w = .go g' (w.setCell (smA Wg) (.int .u32 0)) (semEvents (smA Wg))) ∧ K g'
end

def DnOk (x : Int) : Prop := ∃ v wt : Nat, v < 2147483647 ∧ wt ≤ 1 ∧ x = ((v : Int) + 1) * KK + wt
def UpOk (x : Int) : Prop := ∃ v : Nat, v < 2147483646 ∧ x = (v : Int) * KK
def WtOk (x : Int) : Prop := ∃ v : Nat, v < 2147483648 ∧ x = (v : Int) * KK

end Go.Vk
end
section
namespace Go.Vk
open Go.Conc Go.Conc.Lib
open Go.ConcR (KK wgBlock WgAt stA smA rd wr mk)
open Go.ConcN (WgLive)


def Marked (v : World) (b : Nat) : Prop := ∃ c e, v.heap[b]? = some (.cells c e (0, c.size))

def Free (v : World) (b : Nat) : Prop := v.heap[b]? = some poison ∨ Marked v b

structure Unp (v v' : World) : Prop where
  size : v'.heap.size = v.heap.size
  keep : ∀ b : Nat, v'.heap[b]? = v.heap[b]? ∨ v.heap[b]? = some poison
  os : v'.os = v.os
  output : v'.output = v.output
  tape : v'.tape = v.tape

def Boxed (v : World) (b : Nat) : Prop := ∃ c e lo, 0 < c.size ∧ v.heap[b]? = some (.cells c e (lo, lo))

structure Remark (B : Nat → Prop) (v v' : World) : Prop where
  size : v'.heap.size = v.heap.size
  keep : ∀ b : Nat, ¬ B b → v'.heap[b]? = v.heap[b]?
  turn : ∀ b : Nat, B b → ∃ c e fr, v.heap[b]? = some (.cells c e fr) ∧ v'.heap[b]? = some (.cells c e (0, c.size))
  os : v'.os = v.os
  output : v'.output = v.output
  tape : v'.tape = v.tape

structure Childv (B : Nat → Prop) (v vc : World) : Prop where
  size : vc.heap.size = v.heap.size
  cell : ∀ (b o : Nat) x, (B b ∨ Marked v b) → v.cell? ⟨b, o, none⟩ = some x → vc.cell? ⟨b, o, none⟩ = some x

structure Hide (b1 b2 : Nat) (v v' : World) : Prop where
  size : v'.heap.size = v.heap.size
  keep : ∀ b : Nat, b ≠ b1 → b ≠ b2 → v'.heap[b]? = v.heap[b]?
  os : v'.os = v.os
  output : v'.output = v.output
  tape : v'.tape = v.tape


def Qw (P : Program) (main : Bool) (J : World → Prop) (S : Goroutine → Prop) : Nat → Goroutine → Prop
  | 0, g => S g
  | q + 1, g => g.status = .running ∧ ∃ g', (∀ w, J w → stepG P main g w = .go g' w #[]) ∧ Qw P main J S q g'
theorem Qw.back {P : Program} {main : Bool} {J : World → Prop} {S : Goroutine → Prop} : Back P main J fun g => ∃ q, Qw P main J S q g := ⟨fun hs h ⟨q, hz⟩ => ⟨q + 1, hs, _, h, hz⟩⟩

structure Mp where
  P : Program
  L : WgLink
  Wg : Nat
  c : Nat
  n : Nat
  
  Ok : Nat → Value → World → Prop
  
  Fin : Value → Prop
section
variable (M : Mp)
def Mp.I (w : World) : Prop := WgLive M.L.tWg M.Wg w
def Mp.cm : Cx := ⟨true, M.I⟩
def Mp.cw : Cx := ⟨false, M.I⟩
def Mp.Q (d : Nat) (g : Goroutine) : Prop := ∃ q, QuitsD M.P q d g



def Mp.Qs (S : Goroutine → Prop) (g : Goroutine) : Prop := ∃ q, Qw M.P false M.I S q g
def Mp.W7 (g : Goroutine) : Prop := SemrelAt M.P false M.I M.L.tWg M.Wg (M.Q 1) g
def Mp.W6 (g : Goroutine) : Prop := StoreAt M.P false M.I M.L.tWg M.Wg 0 (M.Qs M.W7) g
def Mp.W5 (g : Goroutine) : Prop := LoadAt M.P false M.I M.L.tWg M.Wg (· = 1) (fun _ => M.Qs M.W6) g
def Mp.W4 (g : Goroutine) : Prop := AddAt M.P false M.I M.L.tWg M.Wg (-KK) DnOk (fun y g' => (y = 1 → M.Qs M.W5 g') ∧ (y ≠ 1 → M.Q 1 g')) g
def Mp.W3 (g : Goroutine) : Prop := MarkAt M.P false M.I .disable (M.Qs M.W4) g
def Mp.W2 (g : Goroutine) : Prop := MarkAt M.P false M.I (.releaseMerge (stA M.Wg)) (M.Qs M.W3) g

def Mp.W1 (k : Nat) (g : Goroutine) (v : World) : Prop :=
  g.status = .running ∧ g.offers = none ∧ ∃ val z, M.Ok k val v ∧ (∀ w, M.I w → stepG M.P false g w = .comm g #[scase M.c val z] true .send w #[]) ∧ M.Qs M.W2 (Go.Conc.served g undef)


def Mp.C10 (g : Goroutine) (v : World) : Prop :=
  g.status = .running ∧ mayWake M.P g = true ∧ ∃ g', (∀ w r, M.I w → w.heap[M.c]? = some (.chan 0 #[] false r r false) → stepG M.P false g w = .go g' (w.setChan M.c 0 #[] true r r false) #[⟨.obj M.c, false, true⟩, ⟨.obj M.c, true, true⟩]) ∧ M.Q 0 g'
def Mp.C9 (g : Goroutine) (v : World) : Prop := MarkAt M.P false M.I (.acquire (stA M.Wg)) (fun g' => Vway M.P M.cw M.C10 g' v) g
def Mp.C7 (g : Goroutine) (v : World) : Prop := MarkAt M.P false M.I .enable (fun g' => Vway M.P M.cw M.C9 g' v) g
def Mp.C6 (g : Goroutine) (v : World) : Prop := LoadAt M.P false M.I M.L.tWg M.Wg (· = 0) (fun _ g' => Vway M.P M.cw M.C7 g' v) g
def Mp.C5 (g : Goroutine) (v : World) : Prop := SemacqAt M.P false M.I M.L.tWg M.Wg (fun g' => Vway M.P M.cw M.C6 g' v) g
def Mp.C4 (g : Goroutine) (v : World) : Prop := MarkAt M.P false M.I (.write (smA M.Wg)) (fun g' => Vway M.P M.cw M.C5 g' v) g
def Mp.C3 (x : Int) (next : Goroutine → World → Prop) (g : Goroutine) (v : World) : Prop := CasAt M.P false M.I M.L.tWg M.Wg x (fun g' => Vway M.P M.cw M.C4 g' v) (fun g' => Vway M.P M.cw next g' v) g
def Mp.C2n (next : Goroutine → World → Prop) (g : Goroutine) (v : World) : Prop :=
  LoadAt M.P false M.I M.L.tWg M.Wg WtOk (fun x g' => (x = 0 → Vway M.P M.cw M.C7 g' v) ∧ (x ≠ 0 → Vway M.P M.cw (M.C3 x next) g' v)) g
def Mp.C2 : Nat → Goroutine → World → Prop
  | 0 => M.C2n fun _ _ => True
  | f + 1 => M.C2n (Mp.C2 f)
def Mp.nx : Nat → Goroutine → World → Prop
  | 0 => fun _ _ => True
  | f + 1 => M.C2 f
theorem Mp.C2_eq (f : Nat) : M.C2 f = M.C2n (M.nx f) := by cases f <;> rfl
def Mp.C1 (g : Goroutine) (v : World) : Prop := MarkAt M.P false M.I .disable (fun g' => Vway M.P M.cw (M.C2 M.n) g' v) g



def Mp.F (g : Goroutine) (v : World) : Prop :=
  g.status = .running ∧ ∃ val, M.Fin val ∧ ∀ {γ : Gh} {w : World}, Vt γ w v → ∃ w' es, stepG M.P true g w = .ended (.done val) w' es ∧ Dg γ w w' es
def Mp.RecvAt (z : Value) (g : Goroutine) : Prop := g.status = .running ∧ g.offers = none ∧ ∀ w, M.I w → stepG M.P true g w = .comm g #[rcase M.c z] true (.recv true) w #[]

def Mp.Got (v v' : World) (k : Nat) (val : Value) : Prop := ∃ vk, M.Ok k val vk ∧ vk.heap.size = v'.heap.size ∧ ∀ b o x, vk.cell? ⟨b, o, none⟩ = some x → v'.cell? ⟨b, o, none⟩ = some x ∧ Free v b
def Mp.R : Nat → (Nat → Prop) → Goroutine → World → Prop
  | 0, X, g, v => ∃ z, M.RecvAt z g ∧ ∀ v₁, Itf v v₁ → Vway M.P M.cm M.F (Go.Conc.served g (.tuple #[z, .bool false])) v₁
  | r + 1, X, g, v => ∃ z, M.RecvAt z g ∧ ∀ v₁, Itf v v₁ → ∀ k, 1 ≤ k → k ≤ M.n → ¬ X k → ∀ v' val, Unp v₁ v' → M.Got v₁ v' k val → Vway M.P M.cm (Mp.R r fun i => X i ∨ i = k) (Go.Conc.served g (.tuple #[val, .bool true])) v'

def Mp.RK (r : Nat) (X : Nat → Prop) (z : Value) (g : Goroutine) (v : World) : Prop :=
  match r with
  | 0 => ∀ v₁, Itf v v₁ → Vway M.P M.cm M.F (Go.Conc.served g (.tuple #[z, .bool false])) v₁
  | r + 1 => ∀ v₁, Itf v v₁ → ∀ k, 1 ≤ k → k ≤ M.n → ¬ X k → ∀ v' val, Unp v₁ v' → M.Got v₁ v' k val → Vway M.P M.cm (M.R r fun i => X i ∨ i = k) (Go.Conc.served g (.tuple #[val, .bool true])) v'
theorem Mp.R_iff {r : Nat} {X : Nat → Prop} {g : Goroutine} {v : World} : M.R r X g v ↔ ∃ z, M.RecvAt z g ∧ M.RK r X z g v := by cases r <;> exact Iff.rfl
def Mp.GoAt (child next : Goroutine → World → Prop) (g : Goroutine) (v : World) : Prop :=
  g.status = .running ∧ ∃ (B : Nat → Prop) (g' ch : Goroutine), (∀ b, B b → Boxed v b) ∧ (∀ w, M.I w → stepG M.P true g w = .spawn g' ch w #[]) ∧ ch.status = .running ∧
    (∀ v', Remark B v v' → Vway M.P M.cm next g' v') ∧ ∀ vc, Childv B v vc → Vway M.P M.cw child ch vc
def Mp.Me (next : Goroutine → World → Prop) (k : Nat) (g : Goroutine) (v : World) : Prop := MarkAt M.P true M.I .enable (fun g' => Vway M.P M.cm (M.GoAt (M.W1 k) next) g' v) g
def Mp.Mr (next : Goroutine → World → Prop) (k : Nat) (g : Goroutine) (v : World) : Prop := MarkAt M.P true M.I (.read (smA M.Wg)) (fun g' => Vway M.P M.cm (M.Me next k) g' v) g
def Mp.Ma (next : Goroutine → World → Prop) (k : Nat) (g : Goroutine) (v : World) : Prop :=
  AddAt M.P true M.I M.L.tWg M.Wg KK UpOk (fun y g' => (y = KK → Vway M.P M.cm (M.Mr next k) g' v) ∧ (y ≠ KK → Vway M.P M.cm (M.Me next k) g' v)) g

def Mp.S : Nat → Goroutine → World → Prop
  | 0, g, v => M.GoAt M.C1 (M.R M.n fun _ => False) g v
  | r + 1, g, v => MarkAt M.P true M.I .disable (fun g' => Vway M.P M.cm (M.Ma (Mp.S r) (M.n - r)) g' v) g
end
end Go.Vk
end
