/-
  Loops over a function: the record in the store, yield's rounds, the loop, the function that holds one.
-/
import Derived.Test.YtfelfimcnidplaaVx3
import Derived.RangeFuncLeaves
set_option linter.unusedVariables false
set_option linter.unusedSimpArgs false
namespace Go.Vc
section
variable {P : Program} {E : Env} {fz : Nat → Prop} {S : Store} {w : World} {N : Nat}
def putsF (F : Frame) : List Nat → List AVal → Frame
  | p :: ps, x :: xs => putsF ((p, x) :: F) ps xs
  | _, _ => F
/-- What is known of a loop's record: its parameters, its codes. -/
structure YOk (P : Program) (N : Nat) (L : Loop) (ps : List Nat) (sa sb : SCode) : Prop where
  hps : L.params.toList = ps
  ready : L.state = .ready
  pend : L.pending = none
  size : L.tmps.size = N
  lt : ∀ p ∈ ps, p < N
  ca : ∃ h, comp P N L.assign h = some sa
  cb : ∃ h, comp P N L.body h = some sb
theorem relF_puts : ∀ (ps : List Nat) (xs : List AVal) (vs : List Value) {F : Frame} {t : Array Value}, RelF E fz w F t → RelL E fz w xs vs → t.size = N → (∀ p ∈ ps, p < N) → xs.length = ps.length →
    RelF E fz w (putsF F ps xs) ((ps.zip vs).foldl (fun t (x : Nat × Value) => t.setIfInBounds x.1 x.2) t) ∧ ((ps.zip vs).foldl (fun t (x : Nat × Value) => t.setIfInBounds x.1 x.2) t).size = N
  | [], [], vs, F, t, hF, hr, hN, hp, hl => by
    simp only [RelL] at hr; subst hr
    exact ⟨hF, hN⟩
  | p :: ps, x :: xs, vs, F, t, hF, hr, hN, hp, hl => by
    simp only [RelL] at hr
    obtain ⟨v, us, rfl, h1, h2⟩ := hr
    have h3 := relF_put (d := some p) (a := ({ tmps := t, defers := [] } : Act)) hF h1 (by simp [dstOk, hN, hp p (List.mem_cons_self ..)])
    exact relF_puts ps xs us h3 h2 (by simp [Act.put, hN]) (fun q hq => hp q (List.mem_cons_of_mem _ hq)) (by simpa using hl)
  | [], x :: xs, _, _, _, _, _, _, _, hl => by simp at hl
  | p :: ps, [], _, _, _, _, _, _, _, hl => by simp at hl
theorem St.aside (st : St E fz S w) {b : Nat} {o : Obj} (hno : ¬ Own E S b) (hfz : ¬ fz b) : St E fz S (w.putObj b o) := by
  have hk : ∀ k, k ≠ b → (w.putObj b o).heap[k]? = w.heap[k]? := fun k h => World.putObj_heap_other h
  refine ⟨fun l o' hl => (st.ok l o' hl).mono (fun _ _ h => h) (fun _ h => h) (fun k hk' => hk k fun e => hfz (e ▸ hk')) fun k hk' => ⟨hk k fun e => hno ⟨l, o', hl, e ▸ hk'⟩, (st.own_lt ⟨o', hl, hk'⟩).2⟩, st.sep, fun k h => by rw [World.putObj_size]; exact st.fzlt k h, st.fresh⟩
theorem own_set_dead {p b : Nat} {ob : Ob} (st : St E fz S w) (hp : S[p]? = some ob) (hb : obBlock E ob = some b) : ¬ Own E (S.set p .dead) b := by
  rintro ⟨l, o, h1, h2⟩
  by_cases e : l = p
  · subst e
    rw [List.getElem?_set_self (List.getElem?_eq_some_iff.1 hp).1] at h1
    cases h1; simp [obBlock] at h2
  · rw [List.getElem?_set_ne (Ne.symm e)] at h1
    exact e (st.sep _ _ _ ⟨o, h1, h2⟩ ⟨ob, hp, hb⟩)
theorem own_set {p b : Nat} (h : Own E (S.set p .dead) b) : Own E S b := by
  obtain ⟨l, o, h1, h2⟩ := h
  by_cases e : l = p
  · subst e
    rcases Nat.lt_or_ge l S.length with hl | hl
    · rw [List.getElem?_set_self hl] at h1
      cases h1; simp [obBlock] at h2
    · rw [List.getElem?_eq_none (by simpa using hl)] at h1; cases h1
  · rw [List.getElem?_set_ne (Ne.symm e)] at h1
    exact ⟨l, o, h1, h2⟩
/-- An object is let go, and its block may turn. -/
theorem St.kill (st : St E fz S w) {p b : Nat} {ob : Ob} {o : Obj} (hp : S[p]? = some ob) (hb : obBlock E ob = some b) : St E fz (S.set p .dead) (w.putObj b o) ∧ Ext E fz S w E fz (S.set p .dead) (w.putObj b o) :=
  st.upd p .dead (fun _ _ h => h) st.fresh (fun l' hl' => by rw [List.getElem?_set_ne (Ne.symm hl')]) (List.getElem?_set_self (List.getElem?_eq_some_iff.1 hp).1) (by rw [World.putObj_size]; exact Nat.le_refl _)
    (fun k _ hn => World.putObj_heap_other fun e => hn ⟨ob, hp, e ▸ hb⟩) (fun k hk => by simp [obBlock] at hk) trivial rfl rfl (Tp.of rfl (Nat.le_refl _))
/-- .. and comes back. -/
theorem St.revive (st : St E fz S w) {p b : Nat} {ob : Ob} {o : Obj} (hp : S[p]? = some .dead) (hno : ¬ Own E S b) (hfz : ¬ fz b) (hob : obBlock E ob = some b) (hok : ObOk E fz (w.putObj b o) ob) : St E fz (S.set p ob) (w.putObj b o) := by
  have ha := st.aside (o := o) hno hfz
  have hlt := (List.getElem?_eq_some_iff.1 hp).1
  have back : ∀ l k, l ≠ p → OwnAt E (S.set p ob) l k → OwnAt E S l k := fun l k e ⟨o', h1, h2⟩ => by
    rw [List.getElem?_set_ne (Ne.symm e)] at h1; exact ⟨o', h1, h2⟩
  have at_p : ∀ k, OwnAt E (S.set p ob) p k → k = b := fun k ⟨o', h1, h2⟩ => by
    rw [List.getElem?_set_self hlt] at h1; cases h1
    rw [hob] at h2; cases h2; rfl
  refine ⟨fun l o' hl => ?_, fun l l' k h1 h2 => ?_, ha.fzlt, ha.fresh⟩
  · by_cases e : l = p
    · subst e
      rw [List.getElem?_set_self hlt] at hl; cases hl; exact hok
    · rw [List.getElem?_set_ne (Ne.symm e)] at hl
      exact ha.ok l o' hl
  · by_cases e1 : l = p <;> by_cases e2 : l' = p
    · rw [e1, e2]
    · subst e1
      have := at_p k h1; subst this
      exact absurd ⟨l', back _ _ e2 h2⟩ hno
    · subst e2
      have := at_p k h2; subst this
      exact absurd ⟨l, back _ _ e1 h1⟩ hno
    · exact st.sep _ _ _ (back _ _ e1 h1) (back _ _ e2 h2)
/-- **A round.** -/
theorem YCalls.of (hD : DrawSound P N) {L : Loop} {ps : List Nat} {sa sb : SCode} {b p : Nat} {F : Frame} {args : List AVal} {K : AVal → Store → Prop} (hL : YOk P N L ps sa sb) (hp : S[p]? = some (.loopo b L F)) (hl : args.length = ps.length)
    {Q1 Q2 : SExit → Frame → Store → Prop} (h : vc P sa Q1 (putsF F ps args) S) (h1 : ∀ e F1 S1, Q1 e F1 S1 → e = .normal ∧ S1[p]? = some (.loopo b L F) ∧ vc P sb Q2 F1 (S1.set p .dead)) (h2 : ∀ e F2 S2, Q2 e F2 S2 → e = .normal ∧ S2[p]? = some .dead ∧ K (.bool true) (S2.set p (.loopo b L F))) : YCalls P b args S K := by
  refine ⟨fun E fz w vals st hrel => ?_⟩
  obtain ⟨k1, k2, k3, k4, k5⟩ := st.ok p _ hp
  obtain ⟨ha, hca⟩ := hL.ca
  obtain ⟨hb, hcb⟩ := hL.cb
  have hvl := hrel.length
  have hps := hL.hps
  have hz : (L.params.zip vals.toArray).foldl (fun (tmps : Array Value) (x : Nat × Value) => tmps.setIfInBounds x.1 x.2) L.tmps = ((ps.zip vals).foldl (fun t (x : Nat × Value) => t.setIfInBounds x.1 x.2) L.tmps) := by
    rw [← Array.foldl_toList, Array.toList_zip, hps]
  obtain ⟨hF1, hN1⟩ := relF_puts ps args vals (F := F) (t := L.tmps) k4 hrel hL.size hL.lt hl
  refine ⟨L.fn, _, L.assign, L.body, run_yield k1 (by rw [← Array.length_toList, ← Array.length_toList, hps]; simp only; omega), roundIn_of_wpIn trivial ?_⟩
  have hz' : (Array.foldl (fun tmps x => match x with | (t, a) => tmps.setIfInBounds t a) L.tmps (L.params.zip vals.toArray)) = ((ps.zip vals).foldl (fun t (x : Nat × Value) => t.setIfInBounds x.1 x.2) L.tmps) := hz
  rw [hz']
  refine wpIn_mono (code_sound (rr := some b) hD L.assign _ sa hca (a := { tmps := _, defers := [] }) st hF1 hN1 h) ?_
  rintro e a1 w1 hq
  cases e <;> simp only [Lift] at hq <;> first | exact hq.elim | (obtain ⟨F1, S1, E1, fz1, h0, _⟩ := hq; cases (h1 _ _ _ h0).1; done) | skip
  obtain ⟨F1, S1, E1, fz1, hq1, x1, st1, r1, n1, d1, _⟩ := hq
  obtain ⟨_, hp1, hb1⟩ := h1 _ _ _ hq1
  obtain ⟨m1, m2, m3, m4, m5⟩ := st1.ok p _ hp1
  refine ⟨_, run_beginRound m1 m2, ?_⟩
  obtain ⟨st2, x2⟩ := st1.kill (o := .loop { L with state := .busy }) hp1 (show obBlock E1 (.loopo b L F) = some b from rfl)
  refine wpIn_mono (code_sound (rr := some b) hD L.body _ sb hcb st2 (RelF.mono st1 x2 r1) n1 hb1) ?_
  rintro e a2 w3 hq
  cases e <;> simp only [Lift] at hq <;> first | exact hq.elim | (obtain ⟨F1, S1, E1, fz1, h0, _⟩ := hq; cases (h2 _ _ _ h0).1; done) | skip
  obtain ⟨F3, S3, E3, fz3, hq2, x3, st3, r3, n3, d3, _⟩ := hq
  obtain ⟨_, hp3, hk⟩ := h2 _ _ _ hq2
  have hlt1 : b < w1.heap.size := (Array.getElem?_eq_some_iff.1 m1).1
  have no2 := own_set_dead st1 hp1 (show obBlock E1 (.loopo b L F) = some b from rfl)
  have h3 : w3.heap[b]? = some (.loop { L with state := .busy }) := by
    rw [x3.keep b (by rw [World.putObj_size]; exact hlt1) no2]
    exact World.putObj_heap_same hlt1
  have hlt3 : b < w3.heap.size := (Array.getElem?_eq_some_iff.1 h3).1
  have no3 : ¬ Own E3 S3 b := fun q => (x3.own b q).elim no2 fun q => by rw [World.putObj_size] at q; omega
  have nf3 : ¬ fz3 b := fun q => (x3.fznew b q).elim m5 fun q => q.elim no2 fun q => by rw [World.putObj_size] at q; omega
  have hLe : ({ ({ L with state := .busy } : Loop) with state := if (none : Option Code).isNone then .ready else .done, pending := none } : Loop) = L := by
    have a1 := hL.ready
    have a2 := hL.pend
    cases L
    simp only at a1 a2
    subst a1 a2
    rfl
  have hre := run_endRound (P := P) none h3
  rw [hLe] at hre
  have xx := (x1.trans x2).trans x3
  have st4 : St E3 fz3 (S3.set p (.loopo b L F)) (w3.putObj b (.loop L)) := by
    refine st3.revive hp3 no3 nf3 rfl ⟨World.putObj_heap_same hlt3, hL.ready, hL.pend, fun n => ?_, nf3⟩
    have := st.rel xx (k4 n)
    exact Rel.mono (fun _ _ h => h) (fun _ h => h) (fun k hk' => World.putObj_heap_other (r := b) fun e => nf3 (by subst e; exact hk')) _ this
  have ob : Own E S b := ⟨p, _, hp, rfl⟩
  have x4 : Ext E fz S w E3 fz3 (S3.set p (.loopo b L F)) (w3.putObj b (.loop L)) := by
    refine ⟨xx.env, xx.frz, xx.fznew, fun k hk' hn => ?_, fun k ⟨l, o, q1, q2⟩ => ?_, by rw [World.putObj_size]; exact xx.size, xx.os, xx.output, xx.tape⟩
    · rw [World.putObj_heap_other (r := b) fun e => hn (by subst e; exact ob)]
      exact xx.keep k hk' hn
    · by_cases e : l = p
      · subst e
        rw [List.getElem?_set_self (List.getElem?_eq_some_iff.1 hp3).1] at q1
        cases q1
        simp [obBlock] at q2
        subst q2
        exact .inl ob
      · rw [List.getElem?_set_ne (Ne.symm e)] at q1
        exact xx.own k ⟨l, o, q1, q2⟩
  exact ⟨_, _, hre, .bool true, _, _, E3, fz3, rfl, x4, st4, by simp [Rel], hk⟩
/-! ### The loop, and the function that holds one -/
inductive RCode where
  | seqL (x : RCode) (y : SCode)
  | seqR (x : SCode) (y : RCode)
  | block (id : Nat) (x : RCode)
  | rfun (g : Rand) (ps : List Nat) (sa sb : SCode)
  deriving Inhabited
def mks : Option Nat → List Deferred
  | none => []
  | some D => [{ target := .collected D, args := #[] }]
def AfterM (N : Nat) (E : Env) (fz : Nat → Prop) (S : Store) (w : World) (a : Act) (K : Frame → Store → Prop) (a' : Act) (w' : World) : Prop :=
  ∃ F' S' E' fz' mk, K F' S' ∧ Ext E fz S w E' fz' S' w' ∧ St E' fz' S' w' ∧ RelF E' fz' w' F' a'.tmps ∧ a'.tmps.size = N ∧ a'.defers = mks mk ++ a.defers ∧
    ∀ D, mk = some D → w.heap.size ≤ D ∧ w'.heap[D]? = some (.deferred (some [])) ∧ ¬ Own E' S' D ∧ ¬ fz' D
def LiftM (N : Nat) (E : Env) (fz : Nat → Prop) (S : Store) (w : World) (a : Act) (Q : SExit → Frame → Store → Prop) : Exit → Act → World → Prop
  | .normal, a', w' => AfterM N E fz S w a (Q .normal) a' w'
  | .exit id, a', w' => AfterM N E fz S w a (Q (.exit id)) a' w'
  | .ret, a', w' => AfterM N E fz S w a (Q .ret) a' w'
  | _, _, _ => False
def vcL (P : Program) (N : Nat) : RCode → (SExit → Frame → Store → Prop) → Frame → Store → Prop
  | .seqL x y, Q, F, S => vcL P N x (SExit.onNormal (vc P y Q) Q) F S
  | .seqR x y, Q, F, S => vc P x (SExit.onNormal (vcL P N y Q) Q) F S
  | .block id x, Q, F, S => vcL P N x (SExit.onBlock id Q) F S
  | .rfun g ps sa sb, Q, F, S => ∃ gf cap, rd F g = .fn (.func gf) [] cap ∧ callable P gf = true ∧ ∀ b L, YOk P N L ps sa sb →
      ACalls P gf (.fn (.yield b) [] [] :: cap) (S ++ [.loopo b L F]) (fun r S' => S'[S.length]? = some (.loopo b L F) ∧ Q .normal F (S'.set S.length .dead))
def compL (P : Program) (N : Nat) : RCode → Code → Option RCode
  | .seqL hx hy, .seq x y => (match compL P N hx x, comp P N y hy with | some x, some y => some (.seqL x y) | _, _ => none)
  | .seqR hx hy, .seq x y => (match comp P N x hx, compL P N hy y with | some x, some y => some (.seqR x y) | _, _ => none)
  | .block _ hx, .block id x => (match compL P N hx x with | some x => some (.block id x) | none => none)
  | .rfun _ _ ha hb, .rangeFunc g ps a b => (match cRand g, comp P N a ha, comp P N b hb with
    | some g, some a, some b => if ps.toList.all (fun p => decide (p < N)) then some (.rfun g ps.toList a b) else none
    | _, _, _ => none)
  | _, _ => none
theorem alloc_keep {w : World} {o : Obj} {k : Nat} (h : k < w.heap.size) : (w.alloc o).heap[k]? = w.heap[k]? := by
  show (w.heap.push o)[k]? = _
  rw [Array.getElem?_push, if_neg (by omega)]
theorem After.m {a a' : Act} {W : List Nat} {K : Frame → Store → Prop} {w' : World} (h : After N E fz S w a W K a' w') : AfterM N E fz S w a K a' w' := by
  obtain ⟨F', S', E', fz', q1, q2, q3, q4, q5, q6, _⟩ := h
  exact ⟨F', S', E', fz', none, q1, q2, q3, q4, q5, q6, fun D h => by cases h⟩
theorem AfterM.step {a a1 a' : Act} {K' : Frame → Store → Prop} {w1 w' : World} {W : List Nat} {S1 : Store} {E1 : Env} {fz1 : Nat → Prop} {mk : Option Nat} (q2 : Ext E fz S w E1 fz1 S1 w1) (q6 : a1.defers = mks mk ++ a.defers)
    (q7 : ∀ D, mk = some D → w.heap.size ≤ D ∧ w1.heap[D]? = some (.deferred (some [])) ∧ ¬ Own E1 S1 D ∧ ¬ fz1 D) (h : After N E1 fz1 S1 w1 a1 W K' a' w') : AfterM N E fz S w a K' a' w' := by
  obtain ⟨F2, S2, E2, fz2, p1, p2, p3, p4, p5, p6, _⟩ := h
  refine ⟨F2, S2, E2, fz2, mk, p1, q2.trans p2, p3, p4, p5, by rw [p6, q6], fun D hD => ?_⟩
  obtain ⟨d1, d2, d3, d4⟩ := q7 D hD
  have hlt := (Array.getElem?_eq_some_iff.1 d2).1
  exact ⟨d1, by rw [p2.keep D hlt d3]; exact d2, fun q => (p2.own D q).elim d3 fun q => by omega, fun q => (p2.fznew D q).elim d4 fun q => q.elim d3 fun q => by omega⟩
theorem AfterM.pre {a a1 a' : Act} {K' : Frame → Store → Prop} {w1 w' : World} {S1 : Store} {E1 : Env} {fz1 : Nat → Prop} (q2 : Ext E fz S w E1 fz1 S1 w1) (q6 : a1.defers = a.defers) (h : AfterM N E1 fz1 S1 w1 a1 K' a' w') : AfterM N E fz S w a K' a' w' := by
  obtain ⟨F2, S2, E2, fz2, mk, p1, p2, p3, p4, p5, p6, p7⟩ := h
  exact ⟨F2, S2, E2, fz2, mk, p1, q2.trans p2, p3, p4, p5, by rw [p6, q6], fun D hD => by obtain ⟨d1, d⟩ := p7 D hD; exact ⟨Nat.le_trans q2.size d1, d⟩⟩
theorem AfterM.mono {a a' : Act} {K K' : Frame → Store → Prop} {w' : World} (h : AfterM N E fz S w a K a' w') (hk : ∀ F S, K F S → K' F S) : AfterM N E fz S w a K' a' w' := by
  obtain ⟨F2, S2, E2, fz2, mk, p1, p⟩ := h
  exact ⟨F2, S2, E2, fz2, mk, hk _ _ p1, p⟩
theorem rfun_sound (hD : DrawSound P N) {g : Operand} {ps : Array Tmp} {assign body : Code} {ha hb sa sb : SCode} {rg : Rand} (hcr : cRand g = some rg) (hca : comp P N assign ha = some sa) (hcb : comp P N body hb = some sb) (hps : ∀ p ∈ ps.toList, p < N)
    {Q : Frame → Store → Prop} {F : Frame} {a : Act} (st : St E fz S w) (hF : RelF E fz w F a.tmps) (hN : a.tmps.size = N) {gf : FuncId} {cap : List AVal} (hg : rd F rg = .fn (.func gf) [] cap) (hgc : callable P gf = true)
    (h : ∀ b L, YOk P N L ps.toList sa sb → ACalls P gf (.fn (.yield b) [] [] :: cap) (S ++ [.loopo b L F]) (fun r S' => S'[S.length]? = some (.loopo b L F) ∧ Q F (S'.set S.length .dead))) :
    (Code.rangeFunc g ps assign body).wpIn (wf none) 0 P (fun e a' w' => e = .normal ∧ AfterM N E fz S w a Q a' w') a w := by
  refine wpIn_rangeFunc fun fn _ => ?_
  have hgv := eval_rel hF hcr
  rw [hg] at hgv
  simp only [Rel, RelL] at hgv
  obtain ⟨vs, us, hev, rfl, hcap⟩ := hgv
  let L : Loop := { state := .ready, pending := none, fn, tmps := a.tmps, params := ps, assign, body, defers := w.heap.size }
  let w1 : World := w.alloc (.deferred (some []))
  let w2 : World := w1.alloc (.loop L)
  have hL : YOk P N L ps.toList sa sb := ⟨rfl, rfl, rfl, hN, hps, ⟨ha, hca⟩, ⟨hb, hcb⟩⟩
  have e1 : w1.heap.size = w.heap.size + 1 := by simp [w1]
  have e2 : w2.heap.size = w.heap.size + 2 := by simp [w2, w1]
  have g1 : w2.heap[w.heap.size + 1]? = some (.loop L) := by
    have := World.alloc_heap_new w1 (.loop L)
    rwa [e1] at this
  have g2 : w2.heap[w.heap.size]? = some (.deferred (some [])) := by
    have h1 : w1.heap[w.heap.size]? = some (.deferred (some [])) := World.alloc_heap_new w _
    rw [← h1]
    exact alloc_keep (by rw [e1]; omega)
  have g3 : ∀ k, k < w.heap.size → w2.heap[k]? = w.heap[k]? := fun k hk => (alloc_keep (by rw [e1]; omega)).trans (alloc_keep hk)
  have hrel0 : ∀ x v, Rel E fz w x v → Rel E fz w2 x v := fun x v h => Rel.mono (fun _ _ h => h) (fun _ h => h) (fun k hk => g3 k (st.fzlt k hk)) x h
  have nf : ¬ fz (w.heap.size + 1) := fun q => by have := st.fzlt _ q; omega
  obtain ⟨st2, x2⟩ : St E fz (S ++ [.loopo (w.heap.size + 1) L F]) w2 ∧ Ext E fz S w E fz (S ++ [.loopo (w.heap.size + 1) L F]) w2 := by
    refine st.upd S.length (.loopo (w.heap.size + 1) L F) (fun _ _ h => h) st.fresh (fun l' hl' => ?_) (by simp) (by omega) (fun k hk _ => g3 k hk) (fun k hk => .inr ?_) ⟨g1, rfl, rfl, fun n => hrel0 _ _ (hF n), nf⟩ rfl rfl (Tp.of rfl (Nat.le_refl _))
    · rw [List.getElem?_append]
      split
      · rfl
      · rename_i hh
        rw [List.getElem?_eq_none (by simp; omega), List.getElem?_eq_none (by omega)]
    · simp [obBlock] at hk; omega
  have hp2 : (S ++ [Ob.loopo (w.heap.size + 1) L F])[S.length]? = some (.loopo (w.heap.size + 1) L F) := by simp
  have hcallA := (h (w.heap.size + 1) L hL).out E fz w2 (.func (.yield (w.heap.size + 1)) #[] #[] :: us) st2 (by
    simp only [RelL, Rel]
    exact ⟨_, _, rfl, ⟨[], [], rfl, rfl, rfl⟩, RelL.mono (fun _ _ h => h) (fun _ h => h) (fun k hk => g3 k (st.fzlt k hk)) _ hcap⟩)
  have hcall : Calls P gf (.func (.yield (w.heap.size + 1)) #[] #[] :: us).toArray w2 _ := hcallA.elim (fun q => q.2) fun ⟨v, w', q, _⟩ => by
    rw [run_callFunc hgc] at q; cases q
  refine ⟨w.heap.size + 1, [{ target := .collected w.heap.size, args := #[] }], w2, { target := .fn (.func gf) us.toArray, args := #[.func (.yield (w.heap.size + 1)) #[] #[]] }, w2, gf,
    #[.func (.yield (w.heap.size + 1)) #[] #[]] ++ us.toArray, w2, ?_, ?_, fun _ _ => trivial, ?_, fun q => (by cases q), ?_⟩
  · exact run_enterLoop_outer fn a.tmps ps assign body
  · simp only [resolve, hev]
    simp [Deferred.ofValue, Act.eval]
  · simp [invoke, run_callFunc hgc]
  · refine callsIn_wide.2 ?_
    have e3 : #[Value.func (.yield (w.heap.size + 1)) #[] #[]] ++ us.toArray = (Value.func (.yield (w.heap.size + 1)) #[] #[] :: us).toArray := by simp
    rw [e3]
    refine hcall.mono ?_
    rintro e w3 ⟨r, S', v, E', fz', rfl, x3, st3, _, hp3, hQ⟩
    obtain ⟨m1, m2, m3, m4, m5⟩ := st3.ok _ _ hp3
    refine ⟨none, _, run_endLoop m1 (by rw [m2]; decide), rfl, ?_⟩
    obtain ⟨st5, x5⟩ := st3.kill (o := .loop { L with state := .exhausted }) hp3 (show obBlock E' (.loopo (w.heap.size + 1) L F) = some (w.heap.size + 1) from rfl)
    have noD2 : ¬ Own E (S ++ [.loopo (w.heap.size + 1) L F]) w.heap.size := fun q => (x2.own _ q).elim (fun ⟨l, q⟩ => by have := (st.own_lt q).1; omega) fun _ => by
      obtain ⟨l, o, q1, q2⟩ := q
      rcases Nat.lt_or_ge l S.length with hl | hl
      · rw [List.getElem?_append_left hl] at q1
        have := (st.own_lt ⟨o, q1, q2⟩).1; omega
      · rw [List.getElem?_append_right hl] at q1
        rcases hj : l - S.length with _ | j
        · rw [hj] at q1; simp at q1; subst q1; simp [obBlock] at q2
        · rw [hj] at q1; simp at q1
    have noD3 : ¬ Own E' S' w.heap.size := fun q => (x3.own _ q).elim noD2 fun q => by omega
    have nfD3 : ¬ fz' w.heap.size := fun q => (x3.fznew _ q).elim (fun q => by have := st.fzlt _ q; omega) fun q => q.elim noD2 fun q => by omega
    have hD3 : w3.heap[w.heap.size]? = some (.deferred (some [])) := by rw [x3.keep _ (by omega) noD2]; exact g2
    have xx := (x2.trans x3).trans x5
    refine ⟨F, _, E', fz', some w.heap.size, hQ, xx, st5, RelF.mono st xx hF, hN, rfl, fun D hD => ?_⟩
    cases hD
    exact ⟨Nat.le_refl _, by rw [World.putObj_heap_other (by omega)]; exact hD3, fun q => noD3 (own_set q), nfD3⟩
theorem lcode_sound (hD : DrawSound P N) : ∀ (hint rc : RCode) (c : Code), compL P N hint c = some rc → ∀ {Q : SExit → Frame → Store → Prop} {E : Env} {fz : Nat → Prop} {S : Store} {w : World} {F : Frame} {a : Act},
    St E fz S w → RelF E fz w F a.tmps → a.tmps.size = N → vcL P N rc Q F S → c.wpIn (wf none) 0 P (LiftM N E fz S w a Q) a w
  | .seqL hx hy, rc, c, hc, Q, E, fz, S, w, F, a, st, hF, hN, h => by
    cases c <;> simp only [compL] at hc <;> first | (cases hc; done) | skip
    rename_i x y
    split at hc <;> cases hc
    rename_i rx sy hrx hsy
    simp only [vcL] at h
    refine wpIn_seq (wpIn_mono (lcode_sound hD hx rx x hrx st hF hN h) fun e a1 w1 hl => ?_)
    cases e <;> simp only [LiftM] at hl <;> first | exact hl.elim | skip
    · obtain ⟨F1, S1, E1, fz1, mk, q1, q2, q3, q4, q5, q6, q7⟩ := hl
      refine wpIn_mono (code_sound (rr := none) hD y hy sy hsy q3 q4 q5 q1) fun e a' w' hl2 => ?_
      cases e <;> simp only [Lift] at hl2 <;> first | exact hl2.elim | exact AfterM.step q2 q6 q7 hl2
    · exact hl
    · exact hl
  | .seqR hx hy, rc, c, hc, Q, E, fz, S, w, F, a, st, hF, hN, h => by
    cases c <;> simp only [compL] at hc <;> first | (cases hc; done) | skip
    rename_i x y
    split at hc <;> cases hc
    rename_i sx ry hsx hry
    simp only [vcL] at h
    refine wpIn_seq (wpIn_mono (code_sound (rr := none) hD x hx sx hsx st hF hN h) fun e a1 w1 hl => ?_)
    cases e <;> simp only [Lift] at hl <;> first | exact hl.elim | skip
    · obtain ⟨F1, S1, E1, fz1, q1, q2, q3, q4, q5, q6, q7⟩ := hl
      refine wpIn_mono (lcode_sound hD hy ry y hry q3 q4 q5 q1) fun e a' w' hl2 => ?_
      cases e <;> simp only [LiftM] at hl2 <;> first | exact hl2.elim | exact hl2.pre q2 q6
    · exact hl.m
    · exact hl.m
  | .block _ hx, rc, c, hc, Q, E, fz, S, w, F, a, st, hF, hN, h => by
    cases c <;> simp only [compL] at hc <;> first | (cases hc; done) | skip
    rename_i id x
    split at hc <;> cases hc
    rename_i rx hrx
    simp only [vcL] at h
    refine wpIn_block (wpIn_mono (lcode_sound hD hx rx x hrx st hF hN h) fun e a1 w1 hl => ?_)
    cases e <;> simp only [LiftM] at hl <;> first | exact hl.elim | skip
    · exact hl.mono fun _ _ q => q
    · rename_i id'
      simp only [Exit.inBlock]
      by_cases e : id' = id
      · subst e
        rw [if_pos rfl]
        refine hl.mono fun _ _ q => ?_
        simpa [SExit.onBlock, Nat.beq_refl] using q
      · rw [if_neg e]
        refine hl.mono fun _ _ q => ?_
        have : Nat.beq id' id = false := by
          cases hb : Nat.beq id' id with
          | false => rfl
          | true => exact (e (Nat.eq_of_beq_eq_true hb)).elim
        simpa [SExit.onBlock, this] using q
    · exact hl.mono fun _ _ q => q
  | .rfun _ _ ha hb, rc, c, hc, Q, E, fz, S, w, F, a, st, hF, hN, h => by
    cases c <;> simp only [compL] at hc <;> first | (cases hc; done) | skip
    rename_i g ps x y
    split at hc
    · rename_i rg sa sb hg hsa hsb
      split at hc <;> cases hc
      rename_i hps
      simp only [vcL] at h
      obtain ⟨gf, cap, h1, h2, h3⟩ := h
      refine wpIn_mono (rfun_sound hD hg hsa hsb (fun p hp => of_decide_eq_true (List.all_eq_true.1 hps p hp)) st hF hN h1 h2 h3) ?_
      rintro e a' w' ⟨rfl, hA⟩
      exact hA
    · cases hc
/-- What is to be shown of a function that holds a loop over a function. -/
def vcFunL (P : Program) (N : Nat) (c : RCode) (res : List RRes) (args : List AVal) (S : Store) (R : AVal → Store → Prop) : Prop :=
  vcL P N c (fun e F' S' => match e with
    | .normal => wRes F' S' (fun xs => retV xs fun r => R r S') res
    | .ret => wRes F' S' (fun xs => retV xs fun r => R r S') res
    | _ => False) (argF 0 args) S
theorem fun_soundL {f : FuncId} {fn : Func} {c : Code} {hint sc : RCode} {res : List RRes} {args : List AVal} {S : Store} {R : AVal → Store → Prop} (ha : callable P f = true) (hD : DrawSound P fn.ntmps) (hf : P.funcs[f]? = some fn) (hb : fn.body = some c) (hc : compL P fn.ntmps hint c = some sc) (hr : cRes P fn.results.toList = some res)
    (hlen : args.length ≤ fn.ntmps) (h : vcFunL P fn.ntmps sc res args S R) : ACalls P f args S R := by
  refine ⟨fun E fz w vals st hrel => ?_⟩
  refine .inl ⟨ha, callsIn_wide.1 (callsIn_of_wp_marks (F := Fence.wide) (n := 0) hf hb trivial ?_)⟩
  have hvl := hrel.length
  have hF : RelF E fz w (argF 0 args) (vals.toArray ++ Array.replicate (fn.ntmps - vals.toArray.size) undef) := by
    intro t
    rw [argF_get]
    rw [if_pos (Nat.zero_le _)]
    simp only [Nat.sub_zero]
    cases hx : args[t]? with
    | none => simp [Rel]
    | some x =>
      obtain ⟨v, hv, hr⟩ := hrel.get hx
      have hlt : t < vals.length := (List.getElem?_eq_some_iff.1 hv).1
      have : (vals.toArray ++ Array.replicate (fn.ntmps - vals.toArray.size) undef).getD t undef = v := by
        rw [Array.getD_eq_getD_getElem?, Array.getElem?_append_left (by simpa using hlt)]
        simp [hv]
      rw [this]
      exact hr
  have fin0 : ∀ {tm : Array Value} {w' : World} {F' : Frame} {S' : Store} {E' : Env} {fz' : Nat → Prop}, Ext E fz S w E' fz' S' w' → St E' fz' S' w' → RelF E' fz' w' F' tm → wRes F' S' (fun xs => retV xs fun r => R r S') res →
      ∃ v, (results fn tm).run P w' = .ok v w' ∧ ∃ r S' v' E' fz', Ending.returned v = .returned v' ∧ Ext E fz S w E' fz' S' w' ∧ St E' fz' S' w' ∧ Rel E' fz' w' r v' ∧ R r S' := fun {tm w' F' S' E' fz'} q2 q3 q4 hw => by
    obtain ⟨xs, vs, g1, g2, g3⟩ := res_rel q3 q4 fn.results.toList res hr hw
    have hrun : (fn.results.mapM fun r => (match r with | .tmp t => pure (tm.getD t undef) | .cell a t => do loadVar t (← asAddr (tm.getD a undef)) : Sem Value)).run P w' = .ok vs.toArray w' := by
      rw [Array.mapM_eq_mapM_toList, Sem.run_map]
      refine Eq.trans (congrArg (fun r => Result.andThen r _) g1) ?_
      rfl
    have hres : (results fn tm).run P w' = .ok (if h : vs.toArray.size = 1 then vs.toArray[0] else .tuple vs.toArray) w' := by
      unfold results
      rw [Sem.run_bind]
      refine Eq.trans (congrArg (fun r => Result.andThen r _) hrun) ?_
      rfl
    have hl := g2.length
    match xs, vs, hl, g2, g3, hres with
    | [x], [v], _, g2, g3, hres =>
      simp only [RelL] at g2
      obtain ⟨v', us, e, hv, _⟩ := g2
      cases e
      exact ⟨v, hres, x, S', v, E', fz', rfl, q2, q3, hv, g3⟩
    | [], [], _, g2, g3, hres => exact ⟨_, hres, .tup [], S', _, E', fz', rfl, q2, q3, by simp only [Rel]; exact ⟨[], rfl, g2⟩, g3⟩
    | x :: y :: xs, v :: u :: vs, _, g2, g3, hres =>
      refine ⟨.tuple (v :: u :: vs).toArray, ?_, .tup (x :: y :: xs), S', _, E', fz', rfl, q2, q3, by simp only [Rel]; exact ⟨_, rfl, g2⟩, g3⟩
      rw [hres, dif_neg (by simp)]
    | [], _ :: _, hl, _, _, _ => simp at hl
    | _ :: _, [], hl, _, _, _ => simp at hl
    | [_], _ :: _ :: _, hl, _, _, _ => simp at hl
    | _ :: _ :: _, [_], hl, _, _, _ => simp at hl
  have fin : ∀ {a' : Act} {w' : World} {K : Frame → Store → Prop}, AfterM fn.ntmps E fz S w { tmps := vals.toArray ++ Array.replicate (fn.ntmps - vals.toArray.size) undef, defers := [] } K a' w' → (∀ F' S', K F' S' → wRes F' S' (fun xs => retV xs fun r => R r S') res) →
      LeavesInM Fence.wide 0 P fn a'.tmps (fun e w' => ∃ r S' v' E' fz', e = .returned v' ∧ Ext E fz S w E' fz' S' w' ∧ St E' fz' S' w' ∧ Rel E' fz' w' r v' ∧ R r S') a'.defers .returning w' := fun {a' w' K} hA hK => by
    obtain ⟨F', S', E', fz', mk, q1, q2, q3, q4, q5, q6, q7⟩ := hA
    have main : ∀ w1, Ext E fz S w E' fz' S' w1 → St E' fz' S' w1 → RelF E' fz' w1 F' a'.tmps → ∃ v, (results fn a'.tmps).run P w1 = .ok v w1 ∧ ∃ r S' v' E' fz', Ending.returned v = .returned v' ∧ Ext E fz S w E' fz' S' w1 ∧ St E' fz' S' w1 ∧ Rel E' fz' w1 r v' ∧ R r S' := by
      clear q2 q3 q4 q7
      intro w' q2 q3 q4
      exact fin0 q2 q3 q4 (hK _ _ q1)
    simp only [List.append_nil] at q6
    rw [q6]
    cases mk with
    | none => exact main w' q2 q3 q4
    | some D =>
      obtain ⟨d1, d2, d3, d4⟩ := q7 D rfl
      have st' := q3.aside (o := .deferred none) d3 d4
      have hk : ∀ k, k ≠ D → (w'.putObj D (.deferred none)).heap[k]? = w'.heap[k]? := fun k h => World.putObj_heap_other h
      refine ⟨by simp, .inl ⟨D, _, rfl, run_takeDeferred d2, main _ ⟨q2.env, q2.frz, q2.fznew, fun k hk' hn => by rw [hk k (by omega)]; exact q2.keep k hk' hn, q2.own, by rw [World.putObj_size]; exact q2.size, q2.os, q2.output, q2.tape⟩ st' fun n => Rel.mono (fun _ _ h => h) (fun _ h => h) (fun k hk' => hk k fun e => d4 (by subst e; exact hk')) _ (q4 n)⟩⟩
  refine wpIn_mono (lcode_sound hD hint sc c hc st hF (by simp; omega) h) ?_
  intro e a' w' hl
  cases e <;> simp only [LiftM] at hl
  · exact fin hl fun _ _ q => q
  · obtain ⟨F', S', E', fz', mk, q1, _⟩ := hl; exact q1.elim
  · exact fin hl fun _ _ q => q
  all_goals exact hl.elim
/-- What is known of a function that holds a loop over a function. -/
structure FlOk (P : Program) (f : FuncId) (N : Nat) (c : RCode) (r : List RRes) : Prop where
  able : callable P f = true
  out : ∀ {args : List AVal} {S : Store} {R : AVal → Store → Prop}, args.length ≤ N → vcFunL P N c r args S R → ACalls P f args S R
end
end Go.Vc
