/-
  A region whose order is open: whatever order its edges allow, it comes to what the order of the text comes to.
-/
import Derived.Test.YtgnhlecfladigaaVxO
import Derived.Orders
set_option linter.unusedVariables false
set_option linter.unusedSimpArgs false
namespace Go.Vc

/-- Does operation j wait for operation i, by the edges? -/
def reach (ops : Array Oper) : Nat → Nat → Nat → Bool
  | 0, _, _ => false
  | f + 1, j, i => match ops[j]? with
    | none => false
    | some o => (o.after.any fun e => Region.binds .any e && e.on == i) || (o.after.any fun e => Region.binds .any e && decide (i < e.on) && reach ops f e.on i)

def GOp.names (g : GOp) : List Nat := g.dst.toList ++ g.op.slots ++ (match g.guard with | some (s, _) => [s] | none => [])

/-- Do two operations name a slot that one of them writes? -/
def hazard (g h : GOp) : Bool := (match g.dst with | some d => h.names.contains d | none => false) || (match h.dst with | some d => g.names.contains d | none => false)

def drawOk (ops : Array Oper) (m : Nat) (gl : List GOp) : Bool :=
  decide (m ≤ ops.size) &&
  (gl.take m).all (fun g => g.op.quiet) &&
  ((List.range ops.size).all fun j => (match ops[j]? with | some o => o.after.all fun e => !Region.binds .any e || decide (e.on < j) | none => true) &&
    (List.range j).all fun i => (match gl[i]?, gl[j]? with | some g, some h => !hazard g h || reach ops ops.size j i | _, _ => false) && (decide (j < m) || reach ops ops.size j i))

section
variable {P : Program} {N : Nat}

theorem cOps_get {ops : Array Oper} : ∀ {l : List Oper} {hint gl : List GOp}, cOps P N ops l hint = some gl → l.length = gl.length ∧ ∀ (i : Nat) o, l[i]? = some o → ∃ g ro, gl[i]? = some g ∧ cop P ro o.type o.op = some g.op ∧ cGuard ops o.guard = some g.guard ∧ g.dst = o.dst ∧ dstOk N o.dst = true
  | [], hint, gl, h => by
    cases hint <;> simp only [cOps] at h <;> cases h
    simp
  | o :: l, [], gl, h => by simp only [cOps] at h; cases h
  | o :: l, g :: hint, gl, h => by
    simp only [cOps] at h
    split at h
    case h_2 => cases h
    rename_i so gd rest hcop hgd hrest
    split at h
    case isFalse => cases h
    rename_i hdst
    cases h
    obtain ⟨h1, h2⟩ := cOps_get hrest
    refine ⟨by simp [h1], fun i o' hi => ?_⟩
    cases i with
    | zero => simp at hi; subst hi; exact ⟨_, roOf g, rfl, hcop, hgd, rfl, hdst⟩
    | succ i => simpa using h2 i o' (by simpa using hi)

/-- Listed operations, closed under what they wait for. -/
def Closed (ops : Array Oper) (D : Array Bool) : Prop := ∀ j o, ops[j]? = some o → D.getD j false = true → ∀ e ∈ o.after, Region.binds .any e = true → D.getD e.on false = true

theorem reach_listed {ops : Array Oper} {D : Array Bool} (hc : Closed ops D) : ∀ {f j i : Nat} {o : Oper}, ops[j]? = some o → (∀ e ∈ o.after, Region.binds .any e = true → D.getD e.on false = true) → reach ops f j i = true → D.getD i false = true
  | 0, j, i, o, _, _, h => by simp [reach] at h
  | f + 1, j, i, o, hj, ha, h => by
    simp only [reach, hj, Array.any_eq_true', Bool.and_eq_true, Bool.or_eq_true, beq_iff_eq] at h
    rcases h with ⟨e, he, hb, h⟩ | ⟨e, he, ⟨hb, _⟩, h⟩
    · rw [← h]; exact ha e he hb
    · have hl := ha e he hb
      cases ho : ops[e.on]? with
      | none =>
        cases f with
        | zero => simp [reach] at h
        | succ f => simp [reach, ho] at h
      | some o' => exact reach_listed hc ho (fun e' he' hb' => hc _ _ ho hl e' he' hb') h

/-- The frame behind the first k operations, of those that are listed. -/
def frD (F : Frame) (gl : List GOp) (xs : List AVal) (D : Nat → Bool) : Nat → Frame
  | 0 => F
  | k + 1 => if D k then (match gl[k]?, xs[k]? with | some g, some x => putF (frD F gl xs D k) g.dst x | _, _ => frD F gl xs D k) else frD F gl xs D k

theorem putF_get (F : Frame) (d : Option Nat) (x : AVal) (t : Nat) : (putF F d x).get t = if d = some t then x else F.get t := by
  cases d with
  | none => simp [putF]
  | some d =>
    simp only [putF, Frame.get]
    cases h : Nat.beq d t with
    | true => rw [if_pos (by rw [Nat.eq_of_beq_eq_true h])]
    | false => rw [if_neg (fun e => Nat.ne_of_beq_eq_false h (by simpa using e))]

theorem frD_congr {F : Frame} {gl : List GOp} {xs : List AVal} {A B : Nat → Bool} {t : Nat} : ∀ (k : Nat), (∀ j g, j < k → gl[j]? = some g → g.dst = some t → A j = B j) → (frD F gl xs A k).get t = (frD F gl xs B k).get t
  | 0, _ => rfl
  | k + 1, h => by
    have ih := frD_congr (F := F) (xs := xs) k fun j g hj => h j g (by omega)
    have other : ∀ (A : Nat → Bool), (∀ g, gl[k]? = some g → g.dst ≠ some t) → (frD F gl xs A (k + 1)).get t = (frD F gl xs A k).get t := fun A hne => by
      simp only [frD]
      split
      · split
        · rename_i g x hg hx; rw [putF_get, if_neg (hne g hg)]
        · rfl
      · rfl
    by_cases hd : ∃ g, gl[k]? = some g ∧ g.dst = some t
    · obtain ⟨g, hg, hd⟩ := hd
      have e := h k g (by omega) hg hd
      simp only [frD, e]
      split
      · split
        · rename_i g' x hg' hx
          rw [putF_get, putF_get]
          split
          · rfl
          · exact ih
        · exact ih
      · exact ih
    · have hne : ∀ g, gl[k]? = some g → g.dst ≠ some t := fun g hg hd' => hd ⟨g, hg, hd'⟩
      rw [other A hne, other B hne, ih]

/-- Only those below a bound count. -/
theorem frD_lt {F : Frame} {gl : List GOp} {xs : List AVal} {i : Nat} : ∀ (k : Nat), i ≤ k → frD F gl xs (fun j => decide (j < i)) k = frD F gl xs (fun _ => true) i
  | 0, h => by
    have : i = 0 := by omega
    subst this
    rfl
  | k + 1, h => by
    by_cases e : i = k + 1
    · subst e
      have : ∀ k', k' ≤ k + 1 → frD F gl xs (fun j => decide (j < k + 1)) k' = frD F gl xs (fun _ => true) k' := by
        intro k'
        induction k' with
        | zero => intro _; rfl
        | succ k' ih => intro h'; simp only [frD, ih (by omega)]; rw [if_pos (by simp; omega)]; simp
      exact this (k + 1) (Nat.le_refl _)
    · simp only [frD]
      rw [if_neg (by simp; omega)]
      exact frD_lt k (by omega)

/-- One of the first m operations, in the order of the text: what it comes to. -/
def Does (P : Program) (S : Store) (F : Frame) (g : GOp) (x : AVal) : Prop :=
  ∃ y, (∀ K' : AVal → Store → Prop, K' y S → vcOp P F S K' g.op) ∧ ∀ E fz w v, Rel E fz w y v → Rel E fz w x v

def StepOk (P : Program) (S : Store) (F : Frame) (g : GOp) (x : AVal) : Prop :=
  match g.guard with
  | none => Does P S F g x
  | some (s, want) => (F.get s = .tt ∧ ((want = true ∧ Does P S F g x) ∨ (want = false ∧ x = .tup []))) ∨ (F.get s = .ff ∧ ((want = false ∧ Does P S F g x) ∨ (want = true ∧ x = .tup []))) ∨ ((∃ l, F.get s = .tup l) ∧ x = .tup [])

theorem splitG_val {b : Bool} {y : AVal} {Q : AVal → Prop} (h : splitG b y Q) : ∃ x, Q x ∧ ∀ E fz w v, Rel E fz w y v → Rel E fz w x v := by
  cases b
  · exact ⟨y, h, fun _ _ _ _ h => h⟩
  · cases y <;> simp only [splitG] at h <;> first | exact h.elim | exact ⟨_, h, fun _ _ _ _ h => h⟩ | skip
    rename_i b
    cases b
    · exact ⟨.ff, h.2 rfl, fun _ _ _ _ h => by simpa [Rel] using h⟩
    · exact ⟨.tt, h.1 rfl, fun _ _ _ _ h => by simpa [Rel] using h⟩

/-- The values of the first m operations. -/
theorem lex_values {S : Store} {K : Frame → Store → Prop} : ∀ (m : Nat) (gl : List GOp) (F : Frame), m ≤ gl.length → (∀ g ∈ gl.take m, g.op.quiet = true) → vcOpsD P K m gl F S →
    ∃ xs : List AVal, xs.length = m ∧ (∀ (i : Nat) g x, i < m → gl[i]? = some g → xs[i]? = some x → StepOk P S (frD F gl xs (fun _ => true) i) g x) ∧ vcOps P K (gl.drop m) (frD F gl xs (fun _ => true) m) S
  | 0, gl, F, _, _, h => ⟨[], rfl, fun i g x hi => by omega, by simpa [frD, vcOpsD] using h⟩
  | m + 1, [], F, hl, _, h => by simp at hl
  | m + 1, g :: gl, F, hl, hq, h => by
    have hqg : g.op.quiet = true := hq g (by simp)
    have build : ∀ {x : AVal}, StepOk P S F g x → vcOpsD P K m gl (putF F g.dst x) S → ∃ xs : List AVal, xs.length = m + 1 ∧ (∀ (i : Nat) g' x, i < m + 1 → (g :: gl)[i]? = some g' → xs[i]? = some x → StepOk P S (frD F (g :: gl) xs (fun _ => true) i) g' x) ∧ vcOps P K ((g :: gl).drop (m + 1)) (frD F (g :: gl) xs (fun _ => true) (m + 1)) S := fun {x} hx hk => by
      obtain ⟨xs, h1, h2, h3⟩ := lex_values m gl (putF F g.dst x) (by simpa using hl) (fun g' hg' => hq g' (by simp [hg'])) hk
      have shift : ∀ i, frD F (g :: gl) (x :: xs) (fun _ => true) (i + 1) = frD (putF F g.dst x) gl xs (fun _ => true) i := by
        intro i
        induction i with
        | zero => simp [frD]
        | succ i ih => rw [frD, ih]; simp [frD]
      refine ⟨x :: xs, by simp [h1], fun i g' x' hi hg' hx' => ?_, by rw [shift]; simpa using h3⟩
      cases i with
      | zero => simp at hg' hx'; subst hg' hx'; exact hx
      | succ i => rw [shift]; exact h2 i g' x' (by omega) (by simpa using hg') (by simpa using hx')
    have exec : vcOpD P F S (fun x S' => splitG g.isG x fun x => vcOpsD P K m gl (putF F g.dst x) S') g.op → ∃ x, Does P S F g x ∧ vcOpsD P K m gl (putF F g.dst x) S := fun hv => by
      obtain ⟨y, h1, h2⟩ := quiet_det hqg hv
      obtain ⟨x, h3, h4⟩ := splitG_val h1
      exact ⟨x, ⟨y, h2, h4⟩, h3⟩
    simp only [vcOpsD] at h
    cases hg : g.guard with
    | none =>
      rw [hg] at h
      obtain ⟨x, h1, h2⟩ := exec h
      exact build (by unfold StepOk; rw [hg]; exact h1) h2
    | some sw =>
      obtain ⟨s, want⟩ := sw
      rw [hg] at h
      simp only [getK_iff] at h
      cases hs : F.get s <;> rw [hs] at h <;> simp only at h
      case tt =>
        cases want
        · exact build (x := .tup []) (by unfold StepOk; rw [hg]; exact .inl ⟨hs, .inr ⟨rfl, rfl⟩⟩) h
        · obtain ⟨x, h1, h2⟩ := exec h
          exact build (by unfold StepOk; rw [hg]; exact .inl ⟨hs, .inl ⟨rfl, h1⟩⟩) h2
      case ff =>
        cases want
        · obtain ⟨x, h1, h2⟩ := exec h
          exact build (by unfold StepOk; rw [hg]; exact .inr (.inl ⟨hs, .inl ⟨rfl, h1⟩⟩)) h2
        · exact build (x := .tup []) (by unfold StepOk; rw [hg]; exact .inr (.inl ⟨hs, .inr ⟨rfl, rfl⟩⟩)) h
      case tup l => exact build (x := .tup []) (by unfold StepOk; rw [hg]; exact .inr (.inr ⟨⟨l, hs⟩, rfl⟩)) h

theorem op_step {ops : Array Oper} {k : Nat} {o : Oper} {g : GOp} {rest : List GOp} {ro : Bool} {Q : Exit → Act → World → Prop} {K : Frame → Store → Prop} {E : Env} {fz : Nat → Prop} {S : Store} {w : World} {F : Frame} {a : Act} (ho : ops[k]? = some o)
    (hcop : cop P ro o.type o.op = some g.op) (hgd : cGuard ops o.guard = some g.guard) (hdst : g.dst = o.dst) (st : St E fz S w) (hF : RelF E fz w F a.tmps) (h : vcOps P K (g :: rest) F S) {next : Act → World → Prop}
    (hn : ∀ (x : AVal) (S' : Store) (E' : Env) (fz' : Nat → Prop) (w' : World) (v : Value), vcOps P K rest (putF F g.dst x) S' → Ext E fz S w E' fz' S' w' → St E' fz' S' w' → Rel E' fz' w' x v → next (a.put o.dst v) w') : wpOp P ops Q k next a w := by
  have run : vcOp P F S (fun x S' => splitG g.isG x fun x => vcOps P K rest (putF F g.dst x) S') g.op → o.wp P a w next Q := fun hop => by
    refine wp_of_runs (cop_sound st hF hcop hop) ?_
    rintro v w' ⟨x, S', E', fz', hk, hx, hs, hr⟩
    obtain ⟨y, hy, hr'⟩ := splitG_rel hk hr
    exact hn y S' E' fz' w' v hy hx hs hr'
  have skip : vcOps P K rest (putF F g.dst (.tup [])) S → next (a.put o.dst undef) w := fun hk =>
    hn _ S E fz w undef hk .refl st (by simp only [Rel]; exact ⟨[], rfl, by simp [RelL]⟩)
  simp only [vcOps] at h
  simp only [wpOp, ho]
  cases hgo : o.guard with
  | none =>
    rw [hgo] at hgd
    simp only [cGuard] at hgd
    have hgd' := Option.some.inj hgd
    rw [← hgd'] at h
    rw [if_pos (by simp [Region.wanted, hgo])]
    exact .inl (run h)
  | some jw =>
    obtain ⟨j, want⟩ := jw
    rw [hgo] at hgd
    simp only [cGuard] at hgd
    split at hgd
    case h_2 => cases hgd
    rename_i d hd
    have hgd' := Option.some.inj hgd
    rw [← hgd'] at h
    obtain ⟨w1, w2, w3⟩ := wanted_rel hgo hd hF
    simp only [getK_iff] at h
    cases hg : F.get d <;> rw [hg] at h <;> simp only at h
    case tt =>
      rw [w1 hg]
      cases want
      · rw [if_neg (by simp)]; exact skip h
      · rw [if_pos rfl]; exact .inl (run h)
    case ff =>
      rw [w2 hg]
      cases want
      · rw [if_pos (by simp)]; exact .inl (run h)
      · rw [if_neg (by simp)]; exact skip h
    case tup =>
      rw [w3 _ hg, if_neg (by simp)]
      exact skip h

theorem quiet_step {ops : Array Oper} {k : Nat} {o : Oper} {g : GOp} {x : AVal} {ro : Bool} {Q : Exit → Act → World → Prop} {E : Env} {fz : Nat → Prop} {S : Store} {w : World} {F Fi : Frame} {a : Act} (ho : ops[k]? = some o)
    (hcop : cop P ro o.type o.op = some g.op) (hgd : cGuard ops o.guard = some g.guard) (hq : g.op.quiet = true) (hS : StepOk P S Fi g x) (hcg : ∀ t ∈ g.names, some t ≠ g.dst ∨ t ∈ g.op.slots ∨ (∃ s w, g.guard = some (s, w) ∧ t = s) → F.get t = Fi.get t) (st : St E fz S w) (hF : RelF E fz w F a.tmps) {next : Act → World → Prop}
    (hn : ∀ (E' : Env) (fz' : Nat → Prop) (w' : World) (v : Value), Ext E fz S w E' fz' S w' → St E' fz' S w' → Rel E' fz' w' x v → next (a.put o.dst v) w') : wpOp P ops Q k next a w := by
  have hsl : ∀ t ∈ g.op.slots, F.get t = Fi.get t := fun t ht => hcg t (by simp [GOp.names, ht]) (.inr (.inl ht))
  have run : Does P S Fi g x → o.wp P a w next Q := fun ⟨y, h1, h2⟩ => by
    have hop := vcOp_congr (F := Fi) (F' := F) hq (fun t ht => (hsl t ht).symm) (h1 (fun z T => z = y ∧ T = S) ⟨rfl, rfl⟩)
    refine wp_of_runs (cop_sound st hF hcop hop) ?_
    rintro v w' ⟨z, S', E', fz', ⟨rfl, rfl⟩, hx, hs, hr⟩
    exact hn E' fz' w' v hx hs (h2 _ _ _ _ hr)
  have skip : x = .tup [] → next (a.put o.dst undef) w := fun e =>
    hn E fz w undef .refl st (by rw [e]; simp only [Rel]; exact ⟨[], rfl, by simp [RelL]⟩)
  unfold StepOk at hS
  simp only [wpOp, ho]
  cases hgo : o.guard with
  | none =>
    rw [hgo] at hgd
    simp only [cGuard] at hgd
    have hgd' := Option.some.inj hgd
    rw [← hgd'] at hS
    rw [if_pos (by simp [Region.wanted, hgo])]
    exact .inl (run hS)
  | some jw =>
    obtain ⟨j, want⟩ := jw
    rw [hgo] at hgd
    simp only [cGuard] at hgd
    split at hgd
    case h_2 => cases hgd
    rename_i d hd
    have hgd' := Option.some.inj hgd
    rw [← hgd'] at hS
    have hgs : F.get d = Fi.get d := hcg d (by simp [GOp.names, ← hgd']) (.inr (.inr ⟨d, want, hgd'.symm, rfl⟩))
    obtain ⟨w1, w2, w3⟩ := wanted_rel hgo hd hF
    rw [hgs] at w1 w2 w3
    rcases hS with ⟨h0, ⟨rfl, h⟩ | ⟨rfl, h⟩⟩ | ⟨h0, ⟨rfl, h⟩ | ⟨rfl, h⟩⟩ | ⟨⟨l, h0⟩, h⟩
    · rw [w1 h0, if_pos rfl]; exact .inl (run h)
    · rw [w1 h0, if_neg (by simp)]; exact skip h
    · rw [w2 h0, if_pos (by simp)]; exact .inl (run h)
    · rw [w2 h0, if_neg (by simp)]; exact skip h
    · rw [w3 l h0, if_neg (by simp)]; exact skip h

theorem getD_true {D : Array Bool} {j : Nat} (h : j < D.size) : D.getD j true = D.getD j false := by
  simp [Array.getD_eq_getD_getElem?, Array.getElem?_eq_getElem h]

theorem getD_set {D : Array Bool} {i j : Nat} (h : i < D.size) : (D.setIfInBounds i true).getD j false = if j = i then true else D.getD j false := by
  simp only [Array.getD_eq_getD_getElem?, Array.getElem?_setIfInBounds]
  by_cases e : i = j
  · subst e; simp [h]
  · rw [if_neg e, if_neg (fun h => e h.symm)]

/-- What 'drawOk' says. -/
structure DrawSpec (ops : Array Oper) (m : Nat) (gl : List GOp) : Prop where
  le : m ≤ ops.size
  quiet : ∀ (i : Nat) g, i < m → gl[i]? = some g → g.op.quiet = true
  edge : ∀ (j : Nat) o, ops[j]? = some o → ∀ e ∈ o.after, Region.binds .any e = true → e.on < j
  haz : ∀ (i j : Nat) g h, i < j → gl[i]? = some g → gl[j]? = some h → hazard g h = true → reach ops ops.size j i = true
  tail : ∀ (i j : Nat), i < j → j < ops.size → m ≤ j → reach ops ops.size j i = true

theorem drawSpec {ops : Array Oper} {m : Nat} {gl : List GOp} (hl : gl.length = ops.size) (h : drawOk ops m gl = true) : DrawSpec ops m gl := by
  simp only [drawOk, Bool.and_eq_true, decide_eq_true_eq] at h
  obtain ⟨⟨h1, h2⟩, h3⟩ := h
  have h3' := List.all_eq_true.1 h3
  refine ⟨h1, fun i g hi hg => ?_, fun j o ho e he hb => ?_, fun i j g hh hij hg hh' hz => ?_, fun i j hij hj hm => ?_⟩
  · refine List.all_eq_true.1 h2 g (List.mem_of_getElem? (i := i) ?_)
    rw [List.getElem?_take, if_pos hi]; exact hg
  · have hj : j < ops.size := (Array.getElem?_eq_some_iff.1 ho).1
    have := h3' j (List.mem_range.2 hj)
    simp only [ho, Bool.and_eq_true] at this
    have := (Array.all_eq_true_iff_forall_mem.1 this.1) e he
    simpa [hb] using this
  · have hj : j < ops.size := by rw [← hl]; exact (List.getElem?_eq_some_iff.1 hh').1
    have := h3' j (List.mem_range.2 hj)
    simp only [Bool.and_eq_true] at this
    have := List.all_eq_true.1 this.2 i (List.mem_range.2 hij)
    simp only [hg, hh', hz, Bool.not_true, Bool.false_or, Bool.and_eq_true] at this
    exact this.1
  · have := h3' j (List.mem_range.2 hj)
    simp only [Bool.and_eq_true] at this
    have := List.all_eq_true.1 this.2 i (List.mem_range.2 hij)
    simp only [Bool.and_eq_true, Bool.or_eq_true, decide_eq_true_eq] at this
    exact this.2.resolve_left (by omega)

theorem ready_wait {ops : Array Oper} {D : Array Bool} (hc : Closed ops D) {i j : Nat} (hi : i ∈ Region.ready .any ops D) (h : reach ops ops.size i j = true) : D.getD j false = true := by
  obtain ⟨_, o, ho, ha⟩ := mem_ready.1 hi
  exact reach_listed hc ho ha h
theorem listed_wait {ops : Array Oper} {D : Array Bool} (hc : Closed ops D) {i j : Nat} (hi : D.getD i false = true) (hsz : D.size = ops.size) (h : reach ops ops.size i j = true) : D.getD j false = true := by
  have hlt : i < ops.size := by
    rw [← hsz]
    rcases Nat.lt_or_ge i D.size with h | h
    · exact h
    · rw [Array.getD_eq_getD_getElem?, Array.getElem?_eq_none h] at hi; cases hi
  have ho := Array.getElem?_eq_getElem hlt
  exact reach_listed hc ho (fun e he hb => hc i _ ho hi e he hb) h

theorem not_stuck {ops : Array Oper} {m : Nat} {gl : List GOp} {D : Array Bool} (sp : DrawSpec ops m gl) (hsz : D.size = ops.size) (h : Region.ready .any ops D = []) : ∀ j, j < ops.size → D.getD j false = true := by
  intro j
  induction j using Nat.strongRecOn with
  | _ j ih =>
    intro hj
    cases hd : D.getD j false with
    | true => rfl
    | false =>
      have hmem : j ∈ Region.ready .any ops D := mem_ready.2 ⟨by rw [getD_true (by omega)]; exact hd, ops[j], Array.getElem?_eq_getElem hj, fun e he hb => by
        have := sp.edge j _ (Array.getElem?_eq_getElem hj) e he hb
        exact ih e.on this (by omega)⟩
      rw [h] at hmem
      cases hmem

theorem closed_set {ops : Array Oper} {D : Array Bool} (hc : Closed ops D) (hsz : D.size = ops.size) {i : Nat} (hi : i ∈ Region.ready .any ops D) : Closed ops (D.setIfInBounds i true) := by
  obtain ⟨h0, o, ho, ha⟩ := mem_ready.1 hi
  have hlt : i < D.size := by rw [hsz]; exact (Array.getElem?_eq_some_iff.1 ho).1
  intro j o' hj hd e he hb
  rw [getD_set hlt] at hd ⊢
  split
  · rfl
  · split at hd
    · rename_i e1; subst e1
      rw [ho] at hj; cases hj
      exact ha e he hb
    · exact hc j o' hj hd e he hb

theorem gWrites_mem : ∀ {gl : List GOp} {g : GOp} {t : Nat}, g ∈ gl → g.dst = some t → t ∈ gWrites gl
  | [], g, t, h, _ => by cases h
  | g' :: gl, g, t, h, hd => by
    simp only [gWrites, List.mem_append]
    rcases List.mem_cons.1 h with rfl | h
    · exact .inl (by simp [hd])
    · exact .inr (gWrites_mem h hd)

theorem filter_lt {p p' : Nat → Bool} {i : Nat} : ∀ {l : List Nat}, i ∈ l → p i = true → p' i = false → (∀ j, p' j = true → p j = true) → (l.filter p').length < (l.filter p).length
  | [], h, _, _, _ => by cases h
  | x :: l, h, h1, h2, h3 => by
    have le : ∀ l : List Nat, (l.filter p').length ≤ (l.filter p).length := by
      intro l
      induction l with
      | nil => simp
      | cons y l ih =>
        simp only [List.filter_cons]
        cases hp' : p' y
        · cases hp : p y <;> simp <;> omega
        · rw [h3 y hp']; simpa using ih
    by_cases e : x = i
    · subst e
      simp only [List.filter_cons, h1, h2]
      have := le l
      simp; omega
    · have ih := filter_lt ((List.mem_cons.1 h).resolve_left (fun e' => e e'.symm)) h1 h2 h3
      simp only [List.filter_cons]
      cases hp' : p' x
      · cases hp : p x <;> simp <;> omega
      · rw [h3 x hp']; simpa using ih

theorem tail_order {ops : Array Oper} {hint gl : List GOp} {m : Nat} {Q : Exit → Act → World → Prop} {K : Frame → Store → Prop} {E0 : Env} {fz0 : Nat → Prop} {S0 : Store} {w0 : World} {a0 : Act}
    (hc : cOps P N ops ops.toList hint = some gl) (sp : DrawSpec ops m gl) (hQ : ∀ a' w', After N E0 fz0 S0 w0 a0 (gWrites gl) K a' w' → Q .normal a' w') :
    ∀ (fuel k : Nat) (D : Array Bool) (a : Act) (w : World) (E : Env) (fz : Nat → Prop) (S : Store) (F : Frame), D.size = ops.size → (∀ j, D.getD j false = decide (j < k)) → m ≤ k → k ≤ ops.size → ops.size ≤ k + fuel → vcOps P K (gl.drop k) F S →
      Ext E0 fz0 S0 w0 E fz S w → St E fz S w → RelF E fz w F a.tmps → a.tmps.size = N → a.defers = a0.defers → (∀ t, t ∉ gWrites gl → a.tmps[t]? = a0.tmps[t]?) → wpAny P .any ops Q fuel D a w := by
  obtain ⟨hlen, hget⟩ := cOps_get hc
  have hlen' : gl.length = ops.size := by rw [← hlen]; simp
  have done : ∀ (D : Array Bool) (a : Act) (w : World) (E : Env) (fz : Nat → Prop) (S : Store) (F : Frame), D.size = ops.size → (∀ j, D.getD j false = decide (j < ops.size)) → vcOps P K (gl.drop ops.size) F S →
      Ext E0 fz0 S0 w0 E fz S w → St E fz S w → RelF E fz w F a.tmps → a.tmps.size = N → a.defers = a0.defers → (∀ t, t ∉ gWrites gl → a.tmps[t]? = a0.tmps[t]?) → Region.ready .any ops D = [] ∧ Q .normal a w := by
    intro D a w E fz S F hsz hD h hx st hF hN hd hu
    refine ⟨?_, hQ a w ⟨F, S, E, fz, ?_, hx, st, hF, hN, hd, hu⟩⟩
    · refine List.eq_nil_iff_forall_not_mem.2 fun i hi => ?_
      obtain ⟨h0, o, ho, _⟩ := mem_ready.1 hi
      have hlt := (Array.getElem?_eq_some_iff.1 ho).1
      rw [getD_true (by omega), hD] at h0
      simp at h0; omega
    · rw [List.drop_eq_nil_of_le (by omega)] at h; exact h
  intro fuel
  induction fuel with
  | zero =>
    intro k D a w E fz S F hsz hD hm hk1 hk h hx st hF hN hd hu
    have hkn : k = ops.size := by omega
    subst hkn
    exact done D a w E fz S F hsz hD h hx st hF hN hd hu
  | succ fuel ih =>
    intro k D a w E fz S F hsz hD hm hk1 hk h hx st hF hN hd hu
    by_cases hkn : k = ops.size
    · subst hkn
      obtain ⟨h1, h2⟩ := done D a w E fz S F hsz hD h hx st hF hN hd hu
      exact ⟨fun _ => h2, fun i hi => by rw [h1] at hi; cases hi⟩
    have hcl : Closed ops D := fun j o hj hdj e he hb => by
      rw [hD] at hdj ⊢
      have := sp.edge j o hj e he hb
      simp at hdj ⊢; omega
    refine ⟨fun hr => ?_, fun i hi => ?_⟩
    · have := not_stuck sp hsz hr k (by omega)
      rw [hD] at this; simp at this
    · obtain ⟨h0, o, ho, ha⟩ := mem_ready.1 hi
      have hlt := (Array.getElem?_eq_some_iff.1 ho).1
      rw [getD_true (by omega), hD] at h0
      have hik : k ≤ i := by simpa using h0
      have e : i = k := by
        rcases Nat.lt_or_ge k i with h' | h'
        · have := ready_wait hcl hi (sp.tail k i h' hlt (by omega))
          rw [hD] at this; simp at this
        · omega
      subst e
      obtain ⟨g, ro, hg, hcop, hgd, hdst, hdo⟩ := hget i o (by simpa using ho)
      have hdrop : gl.drop i = g :: gl.drop (i + 1) := by
        rw [List.drop_eq_getElem_cons (by omega)]
        congr 1
        rw [List.getElem?_eq_getElem (by omega)] at hg
        exact Option.some.inj hg
      rw [hdrop] at h
      refine op_step ho hcop hgd hdst st hF h fun x S' E' fz' w' v hk' hx' hs hr => ?_
      refine ih (i + 1) _ _ w' E' fz' S' (putF F g.dst x) (by simpa using hsz) (fun j => ?_) (by omega) (by omega) (by omega) hk' (hx.trans hx') hs (by rw [hdst]; exact relF_put (RelF.mono st hx' hF) hr (by rw [hN]; exact hdo)) (by rw [put_size]; exact hN) (by rw [put_defers]; exact hd) fun t ht => ?_
      · rw [getD_set (by omega), hD]
        by_cases e : j = i
        · rw [if_pos e]; simp; omega
        · rw [if_neg e]; congr 1; simp; omega
      · rw [put_other, hu t ht]
        intro e
        refine ht ?_
        have : g.dst = some t := by rw [hdst, e]
        exact gWrites_mem (List.mem_of_getElem? hg) this

/-- **Whatever order is taken.** -/
theorem any_order {ops : Array Oper} {hint gl : List GOp} {m : Nat} {Q : Exit → Act → World → Prop} {K : Frame → Store → Prop} {E0 : Env} {fz0 : Nat → Prop} {S : Store} {w0 : World} {F : Frame} {a0 : Act} {xs : List AVal}
    (hc : cOps P N ops ops.toList hint = some gl) (hok : drawOk ops m gl = true) (st0 : St E0 fz0 S w0) (hxl : xs.length = m)
    (hx : ∀ (i : Nat) g x, i < m → gl[i]? = some g → xs[i]? = some x → StepOk P S (frD F gl xs (fun _ => true) i) g x) (hrest : vcOps P K (gl.drop m) (frD F gl xs (fun _ => true) m) S)
    (hQ : ∀ a' w', After N E0 fz0 S w0 a0 (gWrites gl) K a' w' → Q .normal a' w') :
    ∀ (fuel : Nat) (D : Array Bool) (a : Act) (w : World) (E : Env) (fz : Nat → Prop), D.size = ops.size → Closed ops D → (∀ j, m ≤ j → D.getD j false = false) → ((List.range ops.size).filter fun j => !D.getD j false).length ≤ fuel →
      Ext E0 fz0 S w0 E fz S w → St E fz S w → RelF E fz w (frD F gl xs (fun j => D.getD j false) m) a.tmps → a.tmps.size = N → a.defers = a0.defers → (∀ t, t ∉ gWrites gl → a.tmps[t]? = a0.tmps[t]?) → wpAny P .any ops Q fuel D a w := by
  obtain ⟨hlen, hget⟩ := cOps_get hc
  have hlen' : gl.length = ops.size := by rw [← hlen]; simp
  have sp := drawSpec hlen' hok
  have hmn := sp.le
  have finish : ∀ (fuel : Nat) (D : Array Bool) (a : Act) (w : World) (E : Env) (fz : Nat → Prop), D.size = ops.size → (∀ j, m ≤ j → D.getD j false = false) → (∀ j, j < m → D.getD j false = true) → ops.size ≤ m + fuel →
      Ext E0 fz0 S w0 E fz S w → St E fz S w → RelF E fz w (frD F gl xs (fun j => D.getD j false) m) a.tmps → a.tmps.size = N → a.defers = a0.defers → (∀ t, t ∉ gWrites gl → a.tmps[t]? = a0.tmps[t]?) → wpAny P .any ops Q fuel D a w := by
    intro fuel D a w E fz hsz hD hall hf hx0 st hF hN hd hu
    have hDk : ∀ j, D.getD j false = decide (j < m) := fun j => by
      by_cases h : j < m
      · rw [hall j h]; simp [h]
      · rw [hD j (by omega)]; simp [h]
    have hfr : frD F gl xs (fun j => D.getD j false) m = frD F gl xs (fun _ => true) m := by
      rw [show (fun j => D.getD j false) = fun j => decide (j < m) from funext hDk]
      exact frD_lt m (Nat.le_refl _)
    rw [hfr] at hF
    exact tail_order hc sp hQ fuel m D a w E fz S _ hsz hDk (Nat.le_refl _) hmn hf hrest hx0 st hF hN hd hu
  have room : ∀ (D : Array Bool) (f : Nat), (∀ j, m ≤ j → D.getD j false = false) → ((List.range ops.size).filter fun j => !D.getD j false).length ≤ f → ops.size ≤ m + f := by
    intro D f hD hcount
    have h1 : ((List.range ops.size).filter fun j => decide (m ≤ j)).length ≤ ((List.range ops.size).filter fun j => !D.getD j false).length := by
      have : ∀ l : List Nat, (l.filter fun j => decide (m ≤ j)).length ≤ (l.filter fun j => !D.getD j false).length := by
        intro l
        induction l with
        | nil => simp
        | cons y l ih =>
          simp only [List.filter_cons]
          by_cases hy : m ≤ y
          · rw [hD y hy]; simpa [hy] using ih
          · simp only [hy, decide_false, Bool.false_eq_true, if_false]
            split
            · simp only [List.length_cons]; omega
            · exact ih
      exact this _
    have h2 : ∀ n, n ≤ m + ((List.range n).filter fun j => decide (m ≤ j)).length := by
      intro n
      induction n with
      | zero => omega
      | succ n ih =>
        rw [List.range_succ, List.filter_append, List.length_append]
        by_cases hn : m ≤ n
        · simp [hn]; omega
        · omega
    have := h2 ops.size
    omega
  intro fuel
  induction fuel with
  | zero =>
    intro D a w E fz hsz hcl hD hcount hx0 st hF hN hd hu
    refine finish 0 D a w E fz hsz hD (fun j hj => ?_) (room D 0 hD hcount) hx0 st hF hN hd hu
    cases hdj : D.getD j false with
    | true => rfl
    | false =>
      have : j ∈ (List.range ops.size).filter fun j => !D.getD j false := by
        rw [List.mem_filter]; exact ⟨List.mem_range.2 (by omega), by rw [hdj]; rfl⟩
      have := List.length_pos_of_mem this
      omega
  | succ fuel ih =>
    intro D a w E fz hsz hcl hD hcount hx0 st hF hN hd hu
    by_cases hall : ∀ j, j < m → D.getD j false = true
    · exact finish _ D a w E fz hsz hD hall (room D _ hD hcount) hx0 st hF hN hd hu
    · refine ⟨fun hr => (hall fun j hj => not_stuck sp hsz hr j (by omega)).elim, fun i hi => ?_⟩
      obtain ⟨h0, o, ho, ha⟩ := mem_ready.1 hi
      have hlt := (Array.getElem?_eq_some_iff.1 ho).1
      rw [getD_true (by omega)] at h0
      have him : i < m := by
        rcases Nat.lt_or_ge i m with h | h
        · exact h
        · exact (hall fun j hj => ready_wait hcl hi (sp.tail j i (by omega) hlt h)).elim
      obtain ⟨g, ro, hg, hcop, hgd, hdst, hdo⟩ := hget i o (by simpa using ho)
      obtain ⟨x, hxi⟩ : ∃ x, xs[i]? = some x := ⟨xs[i]'(by omega), List.getElem?_eq_getElem (by omega)⟩
      have hS := hx i g x him hg hxi
      -- who wrote a slot that this operation names
      have writers : ∀ t, t ∈ g.names → ∀ j g', j < m → gl[j]? = some g' → g'.dst = some t → j ≠ i → D.getD j false = decide (j < i) := fun t ht j g' hj hg' hd' hne => by
        rcases Nat.lt_or_ge j i with h | h
        · have hz : hazard g' g = true := by simp [hazard, hd', ht]
          rw [ready_wait hcl hi (sp.haz j i g' g h hg' hg hz)]; simp [h]
        · have h' : i < j := by omega
          have hz : hazard g g' = true := by simp [hazard, hd', ht]
          cases hdj : D.getD j false with
          | false => simp; omega
          | true =>
            have := listed_wait hcl hdj hsz (sp.haz i j g g' h' hg hg' hz)
            rw [this] at h0; cases h0
      have hcg : ∀ t ∈ g.names, some t ≠ g.dst ∨ t ∈ g.op.slots ∨ (∃ s w, g.guard = some (s, w) ∧ t = s) → (frD F gl xs (fun j => D.getD j false) m).get t = (frD F gl xs (fun _ => true) i).get t := fun t ht _ => by
        rw [← frD_lt (F := F) (gl := gl) (xs := xs) (i := i) m (by omega)]
        refine frD_congr m fun j g' hj hg' hd' => ?_
        by_cases e : j = i
        · subst e; rw [h0]; simp
        · exact writers t ht j g' hj hg' hd' e
      refine quiet_step ho hcop hgd (sp.quiet i g him hg) hS hcg st hF fun E' fz' w' v hx' hs hr => ?_
      refine ih _ _ w' E' fz' (by simpa using hsz) (closed_set hcl hsz hi) (fun j hj => ?_) ?_ (hx0.trans hx') hs (fun t => ?_) (by rw [put_size]; exact hN) (by rw [put_defers]; exact hd) (fun t ht => ?_)
      · rw [getD_set (by omega), if_neg (by omega)]; exact hD j hj
      · have : ((List.range ops.size).filter fun j => !(D.setIfInBounds i true).getD j false).length < ((List.range ops.size).filter fun j => !D.getD j false).length := by
          refine filter_lt (List.mem_range.2 hlt) (by rw [h0]; rfl) (by rw [getD_set (by omega), if_pos rfl]; rfl) fun j hj => ?_
          rw [getD_set (by omega)] at hj
          split at hj
          · simp at hj
          · exact hj
        omega
      · have hF' := RelF.mono st hx' hF
        by_cases e : g.dst = some t
        · have hval : (frD F gl xs (fun j => (D.setIfInBounds i true).getD j false) m).get t = x := by
            have e1 : (frD F gl xs (fun j => (D.setIfInBounds i true).getD j false) m).get t = (frD F gl xs (fun j => decide (j < i + 1)) m).get t := by
              refine frD_congr m fun j g' hj hg' hd' => ?_
              rw [getD_set (by omega)]
              by_cases ej : j = i
              · subst ej; simp
              · rw [if_neg ej, writers t (by simp [GOp.names, e]) j g' hj hg' hd' ej]
                congr 1; simp; omega
            rw [e1, frD_lt m (by omega)]
            simp only [frD, if_true, hg, hxi, putF_get, e]
          rw [hval]
          have := relF_put (F := []) (a := a) (E := E') (fz := fz') (w := w') (d := o.dst) (x := x) (v := v) (fun n => by simp [Frame.get, Rel]) hr (by rw [hN]; exact hdo) t
          rw [putF_get, if_pos (by rw [← hdst, e])] at this
          exact this
        · have hval : (frD F gl xs (fun j => (D.setIfInBounds i true).getD j false) m).get t = (frD F gl xs (fun j => D.getD j false) m).get t := by
            refine frD_congr m fun j g' hj hg' hd' => ?_
            rw [getD_set (by omega)]
            by_cases ej : j = i
            · subst ej; rw [hg] at hg'; cases hg'; exact (e hd').elim
            · rw [if_neg ej]
          rw [hval, getD_of (put_other (by rw [← hdst]; exact e))]
          exact hF' t
      · rw [put_other, hu t ht]
        intro e
        exact ht (gWrites_mem (List.mem_of_getElem? hg) (by rw [hdst, e]))

theorem draw_region {id : Nat} {ops : Array Oper} {hint gl : List GOp} {m : Nat} (hc : cOps P N ops ops.toList hint = some gl) (hok : drawOk ops m gl = true) (hf : P.follows .mixedOrders = true)
    {K : Frame → Store → Prop} {E : Env} {fz : Nat → Prop} {S : Store} {w : World} {F : Frame} {a : Act} (st : St E fz S w) (hF : RelF E fz w F a.tmps) (hN : a.tmps.size = N) (h : vcOpsD P K m gl F S) :
    (Code.region id ops true).wp P (fun e a' w' => e = .normal ∧ After N E fz S w a (gWrites gl) K a' w') a w := by
  obtain ⟨hlen, hget⟩ := cOps_get hc
  have hok' := hok
  simp only [drawOk, Bool.and_eq_true, decide_eq_true_eq] at hok'
  obtain ⟨xs, h1, h2, h3⟩ := lex_values (P := P) m gl F (by rw [← hlen]; simpa using hok'.1.1) (fun g hg => List.all_eq_true.1 hok'.1.2 g hg) h
  obtain ⟨st', hx'⟩ := st.same (w' := { w with drawn := w.drawn + 1 }) rfl rfl rfl rfl
  have hrep : ∀ j, (Array.replicate ops.size false).getD j false = false := fun j => by
    rw [Array.getD_eq_getD_getElem?]
    cases hj : (Array.replicate ops.size false)[j]? with
    | none => rfl
    | some b => simp [Array.getElem?_replicate] at hj; simp [hj.2]
  refine wp_region_any hf (any_order hc hok st h1 h2 h3 (fun a' w' hA => ⟨rfl, hA⟩) ops.size _ a _ E fz (by simp) (fun j o _ hj => by rw [hrep] at hj; cases hj) (fun j _ => hrep j) ?_ hx' st' ?_ hN rfl (fun _ _ => rfl))
  · refine Nat.le_trans (List.length_filter_le _ _) (by simp)
  · have : frD F gl xs (fun j => (Array.replicate ops.size false).getD j false) m = F := by
      have : ∀ k, frD F gl xs (fun j => (Array.replicate ops.size false).getD j false) k = F := by
        intro k
        induction k with
        | zero => rfl
        | succ k ih => simp only [frD, hrep]; rw [if_neg (by simp)]; simpa only [hrep] using ih
      exact this m
    rw [this]
    exact RelF.mono st hx' hF
end
end Go.Vc
