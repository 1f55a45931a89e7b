/-
  A region whose order is open: whatever order its edges allow, it comes to what the order of the text comes to.
-/
import Derived.Test.YtkemhbclkglmbaaVxO
import Derived.Orders
set_option linter.unusedVariables false
set_option linter.unusedSimpArgs false
namespace Go.Vc

/-- Does operation j wait for operation i, by the edges? -/
def reach (ops : Array Oper) : Nat → Nat → Nat → Bool
  | 0, _, _ => false
  | f + 1, j, i => match ops[j]? with
    | none => false
    | some o => (o.after.any fun e => Region.binds .any e && e.on == i) || (o.after.any fun e => Region.binds .any e && decide (i < e.on) && reach ops f e.on i)

def GOp.names (g : GOp) : List Nat := g.dst.toList ++ g.op.slots ++ (match g.guard with | some (s, _) => [s] | none => [])

/-- Do two operations name a slot that one of them writes? -/
def hazard (g h : GOp) : Bool := (match g.dst with | some d => h.names.contains d | none => false) || (match h.dst with | some d => g.names.contains d | none => false)

/-- What hangs on its slots alone. -/
def SOp.free : SOp → Bool
  | .mov _ | .pick _ _ _ | .build _ _ | .nilchk _ | .bin _ _ _ _ | .strid _ | .not _ | .neg _ | .conv _ _ | .faddr _ _ | .field _ _ _ _ | .index _ _ _ _ _ | .len _ _
  | .min _ | .max _ | .mkfunc _ _ _ | .extract _ _ | .ext _ _ | .slice 0 _ _ _ | .mkif _ _ => true
  | .bslice ro _ _ _ _ => ro
  | _ => false
def SOp.isCall : SOp → Bool
  | .call _ _ | .callv _ _ => true
  | _ => false
/-- What lays one new object behind the others. -/
def SOp.isNew : SOp → Bool
  | .newnil _ | .alloc _ _ | .box _ _ | .mkslice _ _ _ _ _ | .s2b _ => true
  | .bslice ro _ _ _ _ => !ro
  | _ => false
def SOp.isLoad : SOp → Bool
  | .load _ _ _ => true
  | _ => false
/-- A load that is looked at once more behind what may go ahead of it. -/
def passLoad (g h : GOp) : Bool := match g.op, g.dst with
  | .load n ag (.t r), some t => g.guard.isNone && !g.isG && t != r && h.chk.any fun k => k.1 == t && k.2.1 == n && k.2.2.1 == ag && (match k.2.2.2 with | .t s => s == r | _ => false)
  | _, _ => false
/-- What lays a new object at a place that was kept for it. -/
def SOp.resD : SOp → Option Nat
  | .mkres d _ _ _ _ _ => some d
  | .alres d _ _ => some d
  | _ => none
/-- May the second of two that do not wait for each other go ahead of the first one? (q: are they among the first ones?) -/
def mayPass (qa qb : Bool) (g h : GOp) : Bool := !hazard g h && (g.op.free || (g.op.quiet && (qa || !g.op.isCall) && (h.op.isNew || (h.op.quiet && (qb || !h.op.isCall)))) || (match g.op.resD, h.op.resD with
    | some d, some d' => d != d' && g.guard.isNone && h.guard.isNone && !g.isG && !h.isG
    | _, _ => false) || (g.op.isLoad && h.op.resD.isSome && g.guard.isNone && h.guard.isNone && !g.isG && !h.isG))
def mayPass2 (qa qb : Bool) (g h : GOp) : Bool := g.chk.isEmpty && ((mayPass qa qb g h && (h.chk.isEmpty || (g.op.quiet && (qa || !g.op.isCall)))) || (!hazard g h && passLoad g h))
def overB (d : Option Nat) (l : List Nat) : Bool := match d with | some d => l.contains d | none => false

def permG (π : List Nat) (gl : List GOp) : List GOp := π.map fun i => gl.getD i default
def unperm (π : List Nat) (l : List GOp) : List GOp := (List.range π.length).map fun i => l.getD (π.findIdx fun j => j == i) default
/-- Operations in the order of the text, with their numbers; of the first m it is known that they come first. -/
def numG (gl : List GOp) : Nat → List Nat → List (Nat × Bool × GOp)
  | _, [] => []
  | m, i :: π => (i, decide (0 < m), gl.getD i default) :: numG gl (m - 1) π
def okPair (ops : Array Oper) (nc : Bool) (x y : Nat × Bool × GOp) : Bool := (reach ops ops.size y.1 x.1 || mayPass2 x.2.1 y.2.1 x.2.2 y.2.2) && (nc || !x.2.2.op.isLoad || !overB y.2.2.dst x.2.2.names)
def allPairs (ops : Array Oper) (nc : Bool) : List (Nat × Bool × GOp) → Bool
  | [] => true
  | x :: l => (l.all fun y => okPair ops nc x y) && allPairs ops nc l
def noChk (gl : List GOp) : Bool := gl.all fun g => g.chk.isEmpty

def nodupB : List Nat → Bool
  | [] => true
  | a :: l => !l.contains a && nodupB l

def drawOk (ops : Array Oper) (m : Nat) (π : List Nat) (gl : List GOp) : Bool :=
  nodupB π && (π.all fun i => decide (i < ops.size)) && ((List.range ops.size).all fun i => π.contains i) &&
  ((List.range ops.size).all fun j => (match ops[j]? with | some o => o.after.all fun e => !Region.binds .any e || decide (e.on < j) | none => true)) &&
  allPairs ops (noChk gl) (numG gl m π) && noChk ((permG π gl).take m)

section
variable {P : Program} {N : Nat}

theorem cOps_get {ops : Array Oper} : ∀ {l : List Oper} {hint gl : List GOp}, cOps P N ops l hint = some gl → l.length = gl.length ∧ ∀ (i : Nat) o, l[i]? = some o → ∃ g hh, gl[i]? = some g ∧ copR P (roOf hh) hh.op o.type o.op = g.op ∧ cGuard ops o.guard = some g.guard ∧ g.dst = o.dst ∧ dstOk N o.dst = true
  | [], hint, gl, h => by
    cases hint <;> simp only [cOps] at h <;> cases h
    simp
  | o :: l, [], gl, h => by simp only [cOps] at h; cases h
  | o :: l, g :: hint, gl, h => by
    simp only [cOps] at h
    split at h
    case h_2 => cases h
    rename_i gd rest hgd hrest
    split at h
    case isFalse => cases h
    rename_i hdst
    cases h
    obtain ⟨h1, h2⟩ := cOps_get hrest
    refine ⟨by simp [h1], fun i o' hi => ?_⟩
    cases i with
    | zero => simp at hi; subst hi; exact ⟨_, g, rfl, rfl, hgd, rfl, hdst⟩
    | succ i => simpa using h2 i o' (by simpa using hi)

/-- Listed operations, closed under what they wait for. -/
def Closed (ops : Array Oper) (D : Array Bool) : Prop := ∀ j o, ops[j]? = some o → D.getD j false = true → ∀ e ∈ o.after, Region.binds .any e = true → D.getD e.on false = true

theorem reach_listed {ops : Array Oper} {D : Array Bool} (hc : Closed ops D) : ∀ {f j i : Nat} {o : Oper}, ops[j]? = some o → (∀ e ∈ o.after, Region.binds .any e = true → D.getD e.on false = true) → reach ops f j i = true → D.getD i false = true
  | 0, j, i, o, _, _, h => by simp [reach] at h
  | f + 1, j, i, o, hj, ha, h => by
    simp only [reach, hj, Array.any_eq_true', Bool.and_eq_true, Bool.or_eq_true, beq_iff_eq] at h
    rcases h with ⟨e, he, hb, h⟩ | ⟨e, he, ⟨hb, _⟩, h⟩
    · rw [← h]; exact ha e he hb
    · have hl := ha e he hb
      cases ho : ops[e.on]? with
      | none =>
        cases f with
        | zero => simp [reach] at h
        | succ f => simp [reach, ho] at h
      | some o' => exact reach_listed hc ho (fun e' he' hb' => hc _ _ ho hl e' he' hb') h

theorem putF_get (F : Frame) (d : Option Nat) (x : AVal) (t : Nat) : (putF F d x).get t = if d = some t then x else F.get t := by
  cases d with
  | none => simp [putF]
  | some d =>
    simp only [putF, Frame.get]
    cases h : Nat.beq d t with
    | true => rw [if_pos (by rw [Nat.eq_of_beq_eq_true h])]
    | false => rw [if_neg (fun e => Nat.ne_of_beq_eq_false h (by simpa using e))]


theorem op_congr {F F' : Frame} {S : Store} {K : AVal → Store → Prop} {so : SOp} (hs : ∀ t ∈ so.slots, F.get t = F'.get t) (h : vcOp P F S K so) : vcOp P F' S K so := by
  by_cases hq : so.quiet = true
  · exact vcOp_congr hq hs h
  · cases so <;> simp only [SOp.quiet, not_true_eq_false] at hq
    case newnil k => exact h
    case alloc k z => exact h
    case box k x => simp only [vcOp, rdK_iff] at h ⊢; rw [← rd_congr hs]; exact h
    case bslice ro len k z ps => exact wFill_congr hs h
    case store n x v =>
      simp only [SOp.slots, List.mem_append] at hs
      simp only [vcOp, rdK_iff] at h ⊢
      rw [← rd_congr (x := x) fun t ht => hs t (.inl ht), ← rd_congr (x := v) fun t ht => hs t (.inr ht)]; exact h
    case mkslice k b z x y =>
      simp only [SOp.slots, List.mem_append] at hs
      simp only [vcOp, rdK_iff] at h ⊢
      rw [← rd_congr (x := x) fun t ht => hs t (.inl ht), ← rd_congr (x := y) fun t ht => hs t (.inr ht)]; exact h
    case append k b x y =>
      simp only [SOp.slots, List.mem_append] at hs
      simp only [vcOp, rdK_iff] at h ⊢
      rw [← rd_congr (x := x) fun t ht => hs t (.inl ht), ← rd_congr (x := y) fun t ht => hs t (.inr ht)]; exact h
    case bad => exact h
    case isnil neg x => simp only [vcOp, rdK_iff] at h ⊢; rw [← rd_congr hs]; exact h
    case clear k z x => simp only [vcOp, rdK_iff] at h ⊢; rw [← rd_congr hs]; exact h
    case s2b x => simp only [vcOp, rdK_iff] at h ⊢; rw [← rd_congr hs]; exact h
    case mark x => simp only [vcOp, rdK_iff] at h ⊢; rw [← rd_congr hs]; exact h
    case alres d k z => exact h
    case mkres d k b z x y =>
      simp only [SOp.slots, List.mem_append] at hs
      simp only [vcOp, rdK_iff] at h ⊢
      rw [← rd_congr (x := x) fun t ht => hs t (.inl ht), ← rd_congr (x := y) fun t ht => hs t (.inr ht)]; exact h

def vcO (P : Program) (q : Bool) (F : Frame) (S : Store) (K : AVal → Store → Prop) (so : SOp) : Prop := match q with | true => vcOpD P F S K so | false => vcOp P F S K so
theorem vcOpD_of {F : Frame} {S : Store} {K : AVal → Store → Prop} {so : SOp} (h : so.isCall = false) : vcOpD P F S K so = vcOp P F S K so := by
  cases so <;> first | rfl | cases h
theorem vcO_of {F : Frame} {S : Store} {K : AVal → Store → Prop} {so : SOp} {q : Bool} (h : so.isCall = false) : vcO P q F S K so = vcOp P F S K so := by
  cases q
  · rfl
  · exact vcOpD_of h
theorem vcOpD_op {F : Frame} {S : Store} {K : AVal → Store → Prop} {so : SOp} (h : vcOpD P F S K so) : vcOp P F S K so := by
  by_cases hc : so.isCall = true
  · have hq : so.quiet = true := by cases so <;> simp only [SOp.isCall] at hc <;> first | rfl | cases hc
    obtain ⟨x, h1, h2⟩ := quiet_det hq h
    exact h2 K h1
  · rwa [vcOpD_of (by simpa using hc)] at h
theorem vcO_op {F : Frame} {S : Store} {K : AVal → Store → Prop} {so : SOp} {q : Bool} (h : vcO P q F S K so) : vcOp P F S K so := by
  cases q
  · exact h
  · exact vcOpD_op h
theorem vcO_congr {F F' : Frame} {S : Store} {K : AVal → Store → Prop} {so : SOp} {q : Bool} (hs : ∀ t ∈ so.slots, F.get t = F'.get t) (h : vcO P q F S K so) : vcO P q F' S K so := by
  cases q
  · exact op_congr hs h
  · by_cases hc : so.isCall = true
    · cases so <;> simp only [SOp.isCall] at hc <;> first | (cases hc; done) | skip
      case call f xs => simp only [vcO, vcOpD, rdsK_iff] at h ⊢; rw [← rds_congr (xs := xs) hs]; exact h
      case callv x xs =>
        simp only [SOp.slots, List.mem_append] at hs
        simp only [vcO, vcOpD, rdK_iff, rdsK_iff] at h ⊢
        rw [← rd_congr (x := x) fun t ht => hs t (.inl ht), ← rds_congr (xs := xs) fun t ht => hs t (.inr ht)]; exact h
    · have hc : so.isCall = false := by simpa using hc
      rw [vcO_of hc] at h ⊢
      exact op_congr hs h
/-- A quiet operation has one value. -/
theorem quietO {F : Frame} {S : Store} {K : AVal → Store → Prop} {so : SOp} {q : Bool} (hq : so.quiet = true) (hc : q = true ∨ so.isCall = false) (h : vcO P q F S K so) :
    ∃ x, K x S ∧ ∀ (F' : Frame) (K' : AVal → Store → Prop), (∀ t ∈ so.slots, F.get t = F'.get t) → K' x S → vcO P q F' S K' so := by
  by_cases hcl : so.isCall = true
  · rcases hc with rfl | hc
    · cases so <;> simp only [SOp.isCall] at hcl <;> first | (cases hcl; done) | skip
      case call f xs =>
        simp only [vcO, vcOpD, rdsK_iff] at h
        obtain ⟨r0, h1, h2⟩ := h
        refine ⟨r0, h2, fun F' K' hs hk => ?_⟩
        simp only [vcO, vcOpD, rdsK_iff]
        rw [← rds_congr (xs := xs) hs]
        exact ⟨r0, h1, hk⟩
      case callv x xs =>
        simp only [vcO, vcOpD, rdK_iff, rdsK_iff] at h
        generalize hX : rd F x = X at h
        cases X <;> first | exact h.elim | skip
        rename_i f first cap
        cases f <;> first | exact h.elim | skip
        cases first <;> first | exact h.elim | skip
        obtain ⟨hcl, r0, h1, h2⟩ := h
        refine ⟨r0, h2, fun F' K' hs hk => ?_⟩
        simp only [SOp.slots, List.mem_append] at hs
        simp only [vcO, vcOpD, rdK_iff, rdsK_iff]
        rw [← rd_congr (x := x) fun t ht => hs t (.inl ht), ← rds_congr (xs := xs) fun t ht => hs t (.inr ht), hX]
        exact ⟨hcl, r0, h1, hk⟩
    · rw [hcl] at hc; cases hc
  · have hcl : so.isCall = false := by simpa using hcl
    rw [vcO_of hcl, ← vcOpD_of hcl] at h
    obtain ⟨x, h1, h2⟩ := quiet_det hq h
    exact ⟨x, h1, fun F' K' hs hk => vcO_congr hs (by rw [vcO_of hcl]; exact h2 K' hk)⟩
theorem free_quiet {so : SOp} (h : so.free = true) : so.quiet = true ∧ so.isCall = false := by
  cases so <;> simp only [SOp.free] at h <;> first | (cases h; done) | exact ⟨rfl, rfl⟩ | exact ⟨h, rfl⟩
theorem free_store {F : Frame} {S S' : Store} {K : AVal → Store → Prop} {so : SOp} (hf : so.free = true) (h : vcOp P F S K so) : vcOp P F S' (fun x _ => K x S) so := by
  cases so <;> simp only [SOp.free] at hf <;> first | (cases hf; done) | exact h | skip
  case bslice ro len k z ps => subst hf; exact h
  case slice k x lo hi =>
    cases k with
    | zero => exact h
    | succ k => cases hf
theorem freeO {F : Frame} {S : Store} {K : AVal → Store → Prop} {so : SOp} {q : Bool} (hf : so.free = true) (h : vcO P q F S K so) :
    ∃ x, K x S ∧ ∀ (F' : Frame) (S' : Store) (K' : AVal → Store → Prop), (∀ t ∈ so.slots, F.get t = F'.get t) → K' x S' → vcO P q F' S' K' so := by
  obtain ⟨hq, hc⟩ := free_quiet hf
  obtain ⟨x, h1, h2⟩ := quietO hq (.inr hc) h
  refine ⟨x, h1, fun F' S' K' hs hk => ?_⟩
  have g := h2 F' (fun z _ => z = x) hs rfl
  rw [vcO_of hc] at g
  have g' := free_store (S' := S') hf g
  rw [← vcOpD_of hc] at g'
  obtain ⟨y, g1, g2⟩ := quiet_det hq g'
  rw [vcO_of hc]
  refine g2 K' ?_
  have e : y = x := g1
  rw [e]; exact hk
theorem wCells_mono {x : AVal} {K K' : List AVal → Prop} (h : wCells x K) (hk : ∀ c, K c → K' c) : wCells x K' := by
  cases x <;> simp only [wCells] at h ⊢ <;> first | exact h.elim | exact hk _ h
theorem wFill_mono {F : Frame} {K K' : List AVal → Prop} {ps : List (Nat × Nat × Rand)} {cs : List AVal} (h : wFill F cs K ps) (hk : ∀ c, K c → K' c) : wFill F cs K' ps := by
  obtain ⟨x, h1, h2⟩ := det_fill _ h
  exact h2 _ (hk _ h1)
theorem wSrc_mono {S : Store} {k : Nat} {x : AVal} {K K' : Nat → List AVal → Prop} (h : wSrc S k x K) (hk : ∀ n c, K n c → K' n c) : wSrc S k x K' := by
  cases x <;> simp only [wSrc] at h ⊢ <;> first | exact h.elim | exact hk _ _ h | exact ⟨h.1, hk _ _ h.2⟩ | skip
  obtain ⟨k', cs, h1, h2, h3⟩ := wRow_iff.1 h
  exact wRow_iff.2 ⟨k', cs, h1, h2, hk _ _ h3⟩
theorem call_quiet {so : SOp} (h : so.isCall = true) : so.quiet = true := by
  cases so <;> simp only [SOp.isCall] at h <;> first | rfl | cases h
theorem op_mono {F : Frame} {S : Store} {K K' : AVal → Store → Prop} {so : SOp} (hc : so.isCall = false) (h : vcOp P F S K so) (hk : ∀ x S', K x S' → K' x S') : vcOp P F S K' so := by
  by_cases hq : so.quiet = true
  · rw [← vcO_of (q := false) hc] at h
    obtain ⟨x, h1, h2⟩ := quietO hq (.inr hc) h
    exact h2 F K' (fun _ _ => rfl) (hk _ _ h1)
  · cases so <;> simp only [SOp.quiet, not_true_eq_false] at hq
    case newnil k => simp only [vcOp, wPush_iff] at h ⊢; exact fun v => hk _ _ (h v)
    case alloc k z => simp only [vcOp, wPush_iff] at h ⊢; exact fun v => hk _ _ (h v)
    case box k x =>
      simp only [vcOp, wPush_iff, rdK_iff] at h ⊢
      exact wCells_mono h fun c h v => hk _ _ (h v)
    case bslice ro len k z ps =>
      cases ro
      · simp only [vcOp, wPush_iff] at h ⊢
        exact wFill_mono h fun c h v => hk _ _ (h v)
      · exact absurd rfl hq
    case store n x v =>
      simp only [vcOp, rdK_iff] at h ⊢
      generalize rd F x = X at *
      cases X <;> first | exact h.elim | skip
      obtain ⟨k, cs, h1, h2⟩ := wRow_iff.1 h
      refine wRow_iff.2 ⟨k, cs, h1, wCells_mono h2 fun c h => ⟨h.1, h.2.1, ?_⟩⟩
      have h3 := h.2.2
      rw [setRowK_iff, wSet_iff] at h3 ⊢
      exact ⟨h3.1, hk _ _ h3.2⟩
    case mkslice k b z x y =>
      simp only [vcOp, wPush_iff, rdK_iff] at h ⊢
      obtain ⟨kk, j, e, h1, h2, h3⟩ := wIdx_iff h
      rw [e] at h1 ⊢
      exact ⟨j, rfl, h1, h2, fun v => hk _ _ (h3 v)⟩
    case append k b s x =>
      simp only [vcOp, rdK_iff] at h ⊢
      refine wSrc_mono h fun n ys h => ?_
      generalize rd F s = X at *
      cases X <;> first | exact h.elim | skip
      · simp only [wPush_iff] at h ⊢
        exact ⟨h.1, fun v => hk _ _ (h.2 v)⟩
      · simp only at h ⊢
        obtain ⟨k', cs, h1, h2, h3, h4, h5⟩ := wRow_iff.1 h
        refine wRow_iff.2 ⟨k', cs, h1, h2, h3, h4, fun v => ?_⟩
        have := h5 v
        rw [wSet_iff] at this ⊢
        exact ⟨this.1, hk _ _ this.2⟩
    case bad => exact h
    case mark x =>
      simp only [vcOp, rdK_iff] at h ⊢
      generalize rd F x = X at *
      cases X <;> first | exact h.elim | skip
      obtain ⟨k', cs, h1, h3⟩ := wRow_iff.1 h.2
      exact ⟨h.1, wRow_iff.2 ⟨k', cs, h1, hk _ _ h3⟩⟩
    case s2b x =>
      simp only [vcOp, wPush_iff, rdK_iff] at h ⊢
      generalize rd F x = X at *
      cases X <;> first | exact h.elim | exact fun v => hk _ _ (h v)
    case isnil neg x =>
      simp only [vcOp, rdK_iff] at h ⊢
      generalize rd F x = X at *
      cases X <;> first | exact h.elim | exact hk _ _ h | exact fun b hb => hk _ _ (h b hb)
    case clear k z x =>
      simp only [vcOp, rdK_iff] at h ⊢
      generalize rd F x = X at *
      cases X <;> first | exact h.elim | exact hk _ _ h | skip
      simp only at h ⊢
      obtain ⟨k', cs, h1, h2, h3, h4⟩ := wRow_iff.1 h
      rw [wSet_iff] at h4
      exact wRow_iff.2 ⟨k', cs, h1, h2, h3, wSet_iff.2 ⟨h4.1, hk _ _ h4.2⟩⟩
    case mkres d k b z x y =>
      simp only [vcOp, rdK_iff] at h ⊢
      obtain ⟨kk, j, e, h1, h2, h3, h4, h5, h6⟩ := wIdx_iff h
      rw [e] at h1 ⊢
      exact ⟨j, rfl, h1, h2, h3, h4, h5, fun v => hk _ _ (h6 v)⟩
    case alres d k z =>
      simp only [vcOp] at h ⊢
      exact ⟨h.1, h.2.1, h.2.2.1, fun v => hk _ _ (h.2.2.2 v)⟩
theorem vcO_mono {F : Frame} {S : Store} {K K' : AVal → Store → Prop} {so : SOp} {q : Bool} (h : vcO P q F S K so) (hk : ∀ x S', K x S' → K' x S') : vcO P q F S K' so := by
  by_cases hc : so.isCall = true
  · cases q
    · cases so <;> simp only [SOp.isCall] at hc <;> first | (cases hc; done) | skip
      case call f xs => simp only [vcO, vcOp, rdsK_iff] at h ⊢; exact ACallsMono h hk
      case callv x xs =>
        simp only [vcO, vcOp, rdK_iff, rdsK_iff] at h ⊢
        generalize rd F x = X at *
        cases X <;> first | exact h.elim | skip
        rename_i f first cap
        cases f <;> first | exact h.elim | skip
        cases first <;> first | exact h.elim | skip
        exact ⟨h.1, ACallsMono h.2 hk⟩
    · obtain ⟨x, h1, h2⟩ := quietO (call_quiet hc) (.inl rfl) h
      exact h2 F K' (fun _ _ => rfl) (hk _ _ h1)
  · have hc : so.isCall = false := by simpa using hc
    rw [vcO_of hc] at h ⊢
    exact op_mono hc h hk

/-! ### One operation, with its guard -/
def vcG (P : Program) (q : Bool) (o : GOp) (F : Frame) (S : Store) (K : AVal → Store → Prop) : Prop :=
  match o.guard with
  | none => vcO P q F S (fun x S' => splitG o.isG x fun x => K x S') o.op
  | some (g, want) => match F.get g, want with
    | .tt, true => vcO P q F S (fun x S' => splitG o.isG x fun x => K x S') o.op
    | .tt, false => K (.tup []) S
    | .ff, false => vcO P q F S (fun x S' => splitG o.isG x fun x => K x S') o.op
    | .ff, true => K (.tup []) S
    | .tup _, _ => K (.tup []) S
    | _, _ => False
/-- A slot holds what is loaded now. -/
def chk1 (F : Frame) (S : Store) (k : Nat × Nat × Bool × Rand) : Prop := wLoad S k.2.1 k.2.2.1 (rd F k.2.2.2) fun r => r = F.get k.1
def chks (F : Frame) (S : Store) (l : List (Nat × Nat × Bool × Rand)) : Prop := ∀ k ∈ l, chk1 F S k
theorem chk1_congr {F F' : Frame} {S : Store} {k : Nat × Nat × Bool × Rand} (hs : ∀ t ∈ k.1 :: k.2.2.2.slots, F.get t = F'.get t) (h : chk1 F S k) : chk1 F' S k := by
  unfold chk1 at h ⊢
  rw [← rd_congr (F := F) (F' := F') fun t ht => hs t (by simp [ht]), ← hs k.1 (by simp)]
  exact h
theorem chks_congr {F F' : Frame} {S : Store} {l : List (Nat × Nat × Bool × Rand)} (hs : ∀ k ∈ l, ∀ t ∈ k.1 :: k.2.2.2.slots, F.get t = F'.get t) (h : chks F S l) : chks F' S l :=
  fun k hk => chk1_congr (hs k hk) (h k hk)
theorem again_chk {F : Frame} {S : Store} {K : AVal → Store → Prop} {k : Nat × Nat × Bool × Rand} (h : vcOp P F S K (.again k.1 k.2.1 k.2.2.1 k.2.2.2)) : chk1 F S k ∧ K .junk S := by
  simp only [vcOp, rdK_iff] at h
  obtain ⟨z, h1, h2⟩ := det_load _ h
  exact ⟨h2 _ h1.1, h1.2⟩
theorem chks_ops {K : Frame → Store → Prop} {rest : List GOp} {F : Frame} {S : Store} : ∀ (l : List (Nat × Nat × Bool × Rand)), vcOps P K (l.map againG ++ rest) F S → chks F S l ∧ vcOps P K rest F S
  | [], h => ⟨fun k hk => (by cases hk), h⟩
  | k :: l, h => by
    simp only [List.map_cons, List.cons_append, vcOps, againG, splitG, putF] at h
    obtain ⟨h1, h2⟩ := again_chk h
    obtain ⟨h3, h4⟩ := chks_ops l h2
    refine ⟨fun k' hk => ?_, h4⟩
    rcases List.mem_cons.1 hk with rfl | hk
    · exact h1
    · exact h3 k' hk
def vcR (P : Program) (K : Frame → Store → Prop) : List (Nat × Bool × GOp) → Frame → Store → Prop
  | [], F, S => K F S
  | x :: l, F, S => vcG P x.2.1 x.2.2 F S fun y S' => chks (putF F x.2.2.dst y) S' x.2.2.chk ∧ vcR P K l (putF F x.2.2.dst y) S'
theorem splitG_mono {b : Bool} {x : AVal} {K K' : AVal → Prop} (h : splitG b x K) (hk : ∀ x, K x → K' x) : splitG b x K' := by
  cases b
  · exact hk _ h
  · cases x <;> simp only [splitG] at h ⊢ <;> first | exact h.elim | exact hk _ h | exact ⟨fun e => hk _ (h.1 e), fun e => hk _ (h.2 e)⟩
theorem vcG_mono {q : Bool} {o : GOp} {F : Frame} {S : Store} {K K' : AVal → Store → Prop} (h : vcG P q o F S K) (hk : ∀ x S', K x S' → K' x S') : vcG P q o F S K' := by
  unfold vcG at h ⊢
  have hop : ∀ {so : SOp}, vcO P q F S (fun x S' => splitG o.isG x fun x => K x S') so → vcO P q F S (fun x S' => splitG o.isG x fun x => K' x S') so := fun h => vcO_mono h fun x S' h => splitG_mono h fun y hy => hk _ _ hy
  split
  · rename_i hg; rw [hg] at h; exact hop h
  · rename_i g want hg
    rw [hg] at h
    simp only at h
    generalize F.get g = c at *
    cases c <;> cases want <;> simp only at h ⊢ <;> first | exact h.elim | exact hk _ _ h | exact hop h
theorem op_step {ops : Array Oper} {k : Nat} {o : Oper} {g : GOp} {q ro : Bool} {hint : SOp} {Q : Exit → Act → World → Prop} {K : AVal → Store → Prop} {E : Env} {fz : Nat → Prop} {S : Store} {w : World} {F : Frame} {a : Act} (ho : ops[k]? = some o)
    (hcop : copR P ro hint o.type o.op = g.op) (hgd : cGuard ops o.guard = some g.guard) (st : St E fz S w) (hF : RelF E fz w F a.tmps) (h : vcG P q g F S K) {next : Act → World → Prop}
    (hn : ∀ (x : AVal) (S' : Store) (E' : Env) (fz' : Nat → Prop) (w' : World) (v : Value), K x S' → Ext E fz S w E' fz' S' w' → St E' fz' S' w' → Rel E' fz' w' x v → next (a.put o.dst v) w') : wpOp P ops Q k next a w := by
  have run : vcO P q F S (fun x S' => splitG g.isG x fun x => K x S') g.op → o.wp P a w next Q := fun hop => by
    refine wp_of_runs (copR_sound st hF hcop (vcO_op hop)) ?_
    rintro v w' ⟨x, S', E', fz', hk, hx, hs, hr⟩
    obtain ⟨y, hy, hr'⟩ := splitG_rel hk hr
    exact hn y S' E' fz' w' v hy hx hs hr'
  have skip : K (.tup []) S → next (a.put o.dst undef) w := fun hk =>
    hn _ S E fz w undef hk .refl st (by simp only [Rel]; exact ⟨[], rfl, by simp [RelL]⟩)
  unfold vcG at h
  simp only [wpOp, ho]
  cases hgo : o.guard with
  | none =>
    rw [hgo] at hgd
    simp only [cGuard] at hgd
    have hgd' := Option.some.inj hgd
    rw [← hgd'] at h
    rw [if_pos (by simp [Region.wanted, hgo])]
    exact .inl (run h)
  | some jw =>
    obtain ⟨j, want⟩ := jw
    rw [hgo] at hgd
    simp only [cGuard] at hgd
    split at hgd
    case h_2 => cases hgd
    rename_i d hd
    have hgd' := Option.some.inj hgd
    rw [← hgd'] at h
    obtain ⟨w1, w2, w3⟩ := wanted_rel hgo hd hF
    simp only at h
    cases hg : F.get d <;> cases want <;> rw [hg] at h <;> simp only at h <;> first | exact h.elim | skip
    · rw [w1 hg, if_neg (by simp)]; exact skip h
    · rw [w1 hg, if_pos rfl]; exact .inl (run h)
    · rw [w2 hg, if_pos (by simp)]; exact .inl (run h)
    · rw [w2 hg, if_neg (by simp)]; exact skip h
    all_goals
      rw [w3 _ hg, if_neg (by simp)]
      exact skip h

theorem getD_true {D : Array Bool} {j : Nat} (h : j < D.size) : D.getD j true = D.getD j false := by
  simp [Array.getD_eq_getD_getElem?, Array.getElem?_eq_getElem h]

theorem getD_set {D : Array Bool} {i j : Nat} (h : i < D.size) : (D.setIfInBounds i true).getD j false = if j = i then true else D.getD j false := by
  simp only [Array.getD_eq_getD_getElem?, Array.getElem?_setIfInBounds]
  by_cases e : i = j
  · subst e; simp [h]
  · rw [if_neg e, if_neg (fun h => e h.symm)]

theorem ready_wait {ops : Array Oper} {D : Array Bool} (hc : Closed ops D) {i j : Nat} (hi : i ∈ Region.ready .any ops D) (h : reach ops ops.size i j = true) : D.getD j false = true := by
  obtain ⟨_, o, ho, ha⟩ := mem_ready.1 hi
  exact reach_listed hc ho ha h
theorem listed_wait {ops : Array Oper} {D : Array Bool} (hc : Closed ops D) {i j : Nat} (hi : D.getD i false = true) (hsz : D.size = ops.size) (h : reach ops ops.size i j = true) : D.getD j false = true := by
  have hlt : i < ops.size := by
    rw [← hsz]
    rcases Nat.lt_or_ge i D.size with h | h
    · exact h
    · rw [Array.getD_eq_getD_getElem?, Array.getElem?_eq_none h] at hi; cases hi
  have ho := Array.getElem?_eq_getElem hlt
  exact reach_listed hc ho (fun e he hb => hc i _ ho hi e he hb) h

theorem not_stuck {ops : Array Oper} {D : Array Bool} (hedge : ∀ (j : Nat) o, ops[j]? = some o → ∀ e ∈ o.after, Region.binds .any e = true → e.on < j) (hsz : D.size = ops.size) (h : Region.ready .any ops D = []) : ∀ j, j < ops.size → D.getD j false = true := by
  intro j
  induction j using Nat.strongRecOn with
  | _ j ih =>
    intro hj
    cases hd : D.getD j false with
    | true => rfl
    | false =>
      have hmem : j ∈ Region.ready .any ops D := mem_ready.2 ⟨by rw [getD_true (by omega)]; exact hd, ops[j], Array.getElem?_eq_getElem hj, fun e he hb => by
        have := hedge j _ (Array.getElem?_eq_getElem hj) e he hb
        exact ih e.on this (by omega)⟩
      rw [h] at hmem
      cases hmem

theorem closed_set {ops : Array Oper} {D : Array Bool} (hc : Closed ops D) (hsz : D.size = ops.size) {i : Nat} (hi : i ∈ Region.ready .any ops D) : Closed ops (D.setIfInBounds i true) := by
  obtain ⟨h0, o, ho, ha⟩ := mem_ready.1 hi
  have hlt : i < D.size := by rw [hsz]; exact (Array.getElem?_eq_some_iff.1 ho).1
  intro j o' hj hd e he hb
  rw [getD_set hlt] at hd ⊢
  split
  · rfl
  · split at hd
    · rename_i e1; subst e1
      rw [ho] at hj; cases hj
      exact ha e he hb
    · exact hc j o' hj hd e he hb

theorem gWrites_mem : ∀ {gl : List GOp} {g : GOp} {t : Nat}, g ∈ gl → g.dst = some t → t ∈ gWrites gl
  | [], g, t, h, _ => by cases h
  | g' :: gl, g, t, h, hd => by
    simp only [gWrites, List.mem_append]
    rcases List.mem_cons.1 h with rfl | h
    · exact .inl (by simp [hd])
    · exact .inr (gWrites_mem h hd)

/-- What is read of a frame by an operation. -/
def GOp.reads (o : GOp) : List Nat := o.op.slots ++ (match o.guard with | some (s, _) => [s] | none => [])
theorem vcG_congr {q : Bool} {o : GOp} {F F' : Frame} {S : Store} {K : AVal → Store → Prop} (hs : ∀ t ∈ o.reads, F.get t = F'.get t) (h : vcG P q o F S K) : vcG P q o F' S K := by
  have hsl : ∀ t ∈ o.op.slots, F.get t = F'.get t := fun t ht => hs t (by simp [GOp.reads, ht])
  unfold vcG at h ⊢
  split
  · rename_i hg; rw [hg] at h; exact vcO_congr hsl h
  · rename_i g want hg
    rw [hg] at h
    simp only at h
    rw [← hs g (by simp [GOp.reads, hg])]
    generalize F.get g = c at *
    cases c <;> cases want <;> simp only at h ⊢ <;> first | exact h.elim | exact h | exact vcO_congr hsl h
theorem splitG_det {b : Bool} {y : AVal} {Q : AVal → Prop} (h : splitG b y Q) : ∃ x, Q x ∧ ∀ Q' : AVal → Prop, Q' x → splitG b y Q' := by
  cases b
  · exact ⟨y, h, fun _ h => h⟩
  · cases y <;> simp only [splitG] at h ⊢ <;> first | exact h.elim | exact ⟨_, h, fun _ h => h⟩ | skip
    rename_i b
    cases b
    · exact ⟨.ff, h.2 rfl, fun _ h => ⟨fun e => (by cases e), fun _ => h⟩⟩
    · exact ⟨.tt, h.1 rfl, fun _ h => ⟨fun _ => h, fun e => (by cases e)⟩⟩
theorem vcG_quiet {q : Bool} {o : GOp} {F : Frame} {S : Store} {K : AVal → Store → Prop} (hq : o.op.quiet = true) (hc : q = true ∨ o.op.isCall = false) (h : vcG P q o F S K) :
    ∃ x, K x S ∧ ∀ (F' : Frame) (K' : AVal → Store → Prop), (∀ t ∈ o.reads, F.get t = F'.get t) → K' x S → vcG P q o F' S K' := by
  have hop : vcO P q F S (fun x S' => splitG o.isG x fun x => K x S') o.op → ∃ x, K x S ∧ ∀ (F' : Frame) (K' : AVal → Store → Prop), (∀ t ∈ o.op.slots, F.get t = F'.get t) → K' x S → vcO P q F' S (fun x S' => splitG o.isG x fun x => K' x S') o.op := fun h => by
    obtain ⟨y, h1, h2⟩ := quietO hq hc h
    obtain ⟨x, h3, h4⟩ := splitG_det h1
    exact ⟨x, h3, fun F' K' hs hk => h2 F' _ hs (h4 _ hk)⟩
  unfold vcG at h
  split at h
  · rename_i hg
    obtain ⟨x, h1, h2⟩ := hop h
    refine ⟨x, h1, fun F' K' hs hk => ?_⟩
    unfold vcG; rw [hg]
    exact h2 F' K' (fun t ht => hs t (by simp [GOp.reads, ht])) hk
  · rename_i g want hg
    have other : ∀ {F' : Frame}, (∀ t ∈ o.reads, F.get t = F'.get t) → F'.get g = F.get g := fun hs => (hs g (by simp [GOp.reads, hg])).symm
    have sl : ∀ {F' : Frame}, (∀ t ∈ o.reads, F.get t = F'.get t) → ∀ t ∈ o.op.slots, F.get t = F'.get t := fun hs t ht => hs t (by simp [GOp.reads, ht])
    cases hcv : F.get g <;> cases want <;> rw [hcv] at h <;> simp only at h <;> first | exact h.elim | skip
    all_goals first
      | (obtain ⟨x, h1, h2⟩ := hop h
         refine ⟨x, h1, fun F' K' hs hk => ?_⟩
         unfold vcG; rw [hg]; simp only; rw [other hs, hcv]
         exact h2 F' K' (sl hs) hk)
      | (refine ⟨_, h, fun F' K' hs hk => ?_⟩
         unfold vcG; rw [hg]; simp only; rw [other hs, hcv]
         exact hk)
theorem vcG_free {q : Bool} {o : GOp} {F : Frame} {S : Store} {K : AVal → Store → Prop} (hf : o.op.free = true) (h : vcG P q o F S K) :
    ∃ x, K x S ∧ ∀ (F' : Frame) (S' : Store) (K' : AVal → Store → Prop), (∀ t ∈ o.reads, F.get t = F'.get t) → K' x S' → vcG P q o F' S' K' := by
  have hop : vcO P q F S (fun x S' => splitG o.isG x fun x => K x S') o.op → ∃ x, K x S ∧ ∀ (F' : Frame) (S' : Store) (K' : AVal → Store → Prop), (∀ t ∈ o.op.slots, F.get t = F'.get t) → K' x S' → vcO P q F' S' (fun x S' => splitG o.isG x fun x => K' x S') o.op := fun h => by
    obtain ⟨y, h1, h2⟩ := freeO hf h
    obtain ⟨x, h3, h4⟩ := splitG_det h1
    exact ⟨x, h3, fun F' S' K' hs hk => h2 F' S' _ hs (h4 _ hk)⟩
  unfold vcG at h
  split at h
  · rename_i hg
    obtain ⟨x, h1, h2⟩ := hop h
    refine ⟨x, h1, fun F' S' K' hs hk => ?_⟩
    unfold vcG; rw [hg]
    exact h2 F' S' K' (fun t ht => hs t (by simp [GOp.reads, ht])) hk
  · rename_i g want hg
    have other : ∀ {F' : Frame}, (∀ t ∈ o.reads, F.get t = F'.get t) → F'.get g = F.get g := fun hs => (hs g (by simp [GOp.reads, hg])).symm
    have sl : ∀ {F' : Frame}, (∀ t ∈ o.reads, F.get t = F'.get t) → ∀ t ∈ o.op.slots, F.get t = F'.get t := fun hs t ht => hs t (by simp [GOp.reads, ht])
    cases hcv : F.get g <;> cases want <;> rw [hcv] at h <;> simp only at h <;> first | exact h.elim | skip
    all_goals first
      | (obtain ⟨x, h1, h2⟩ := hop h
         refine ⟨x, h1, fun F' S' K' hs hk => ?_⟩
         unfold vcG; rw [hg]; simp only; rw [other hs, hcv]
         exact h2 F' S' K' (sl hs) hk)
      | (refine ⟨_, h, fun F' S' K' hs hk => ?_⟩
         unfold vcG; rw [hg]; simp only; rw [other hs, hcv]
         exact hk)

/-! ### Beside a new object -/
theorem St.front {E : Env} {fz : Nat → Prop} {S : Store} {w : World} {o : Ob} (st : St E fz (S ++ [o]) w) : St E fz S w := by
  have up : ∀ {l : Nat} {x : Ob}, S[l]? = some x → (S ++ [o])[l]? = some x := fun {l x} h => by
    rw [List.getElem?_append_left (List.getElem?_eq_some_iff.1 h).1]; exact h
  exact ⟨fun l x h => st.ok l x (up h), fun l l' b ⟨x, h1, h2⟩ ⟨y, g1, g2⟩ => st.sep l l' b ⟨x, up h1, h2⟩ ⟨y, up g1, g2⟩, st.fzlt, st.fresh⟩
theorem ACalls_push {P : Program} {f : FuncId} {args : List AVal} {S : Store} {r0 : AVal} {o : Ob} (h : ACalls P f args S (fun r S' => r = r0 ∧ S' = S)) : ACalls P f args (S ++ [o]) (fun r S' => r = r0 ∧ S' = S ++ [o]) := by
  refine ⟨fun E fz w vals st hrel => (h.out E fz w vals st.front hrel).mono ?_⟩
  rintro e w' ⟨r, S', v, E', fz', h1, hx, st', hr, rfl, rfl⟩
  have lt : ∀ {l : Nat} {x : Ob}, S'[l]? = some x → l < S'.length := fun h => (List.getElem?_eq_some_iff.1 h).1
  have up : ∀ {l : Nat} {x : Ob}, S'[l]? = some x → (S' ++ [o])[l]? = some x := fun {l x} h => by
    rw [List.getElem?_append_left (lt h)]; exact h
  have last : (S' ++ [o])[S'.length]? = some o := by simp
  have split : ∀ {l : Nat} {x : Ob}, (S' ++ [o])[l]? = some x → S'[l]? = some x ∨ (l = S'.length ∧ x = o) := fun {l x} h => by
    rcases Nat.lt_or_ge l S'.length with c | c
    · rw [List.getElem?_append_left c] at h; exact .inl h
    · have := (List.getElem?_eq_some_iff.1 h).1
      simp at this
      have e : l = S'.length := by omega
      subst e
      rw [last] at h; cases h
      exact .inr ⟨rfl, rfl⟩
  have ownUp : ∀ {b : Nat}, Own E S' b → Own E (S' ++ [o]) b := fun ⟨l, x, q1, q2⟩ => ⟨l, x, up q1, q2⟩
  have oat : ∀ {b : Nat}, obBlock E o = some b → OwnAt E (S' ++ [o]) S'.length b := fun hb => ⟨o, last, hb⟩
  have okO := st.ok _ _ last
  have blk := okO.block hx.env
  have notin : ∀ {b : Nat}, obBlock E o = some b → ¬ Own E S' b := fun hb ⟨l, x, q1, q2⟩ => by
    have := st.sep l S'.length _ ⟨x, up q1, q2⟩ (oat hb)
    have := lt q1
    omega
  have safe : ∀ b, obBlock E o = some b → w'.heap[b]? = w.heap[b]? ∧ ¬ fz' b := fun b hb => by
    obtain ⟨l1, l2⟩ := st.own_lt (oat hb)
    refine ⟨hx.keep b l1 (notin hb), fun hf => ?_⟩
    rcases hx.fznew b hf with h | h | h
    · exact l2 h
    · exact notin hb h
    · omega
  have e1 : ∀ b, fz' b → fz b ∨ Own E (S' ++ [o]) b ∨ w.heap.size ≤ b := fun b hb => by
    rcases hx.fznew b hb with h | h | h
    · exact .inl h
    · exact .inr (.inl (ownUp h))
    · exact .inr (.inr h)
  have e2 : ∀ b, Own E' (S' ++ [o]) b → Own E (S' ++ [o]) b ∨ w.heap.size ≤ b := fun b ⟨l, x, q1, q2⟩ => by
    rcases split q1 with h | ⟨rfl, rfl⟩
    · rcases hx.own b ⟨l, x, h, q2⟩ with h | h
      · exact .inl (ownUp h)
      · exact .inr h
    · rw [blk] at q2; exact .inl ⟨_, oat q2⟩
  have e3 : ∀ (l : Nat) x, (S' ++ [o])[l]? = some x → ObOk E' fz' w' x := fun l x hl => by
    rcases split hl with h | ⟨rfl, rfl⟩
    · exact st'.ok l x h
    · exact okO.mono hx.env hx.frz (st.front.fz_keep hx) safe
  have e4 : ∀ l l' b, OwnAt E' (S' ++ [o]) l b → OwnAt E' (S' ++ [o]) l' b → l = l' := fun l l' b ⟨x, q1, q2⟩ ⟨y, g1, g2⟩ => by
    have cross : ∀ {l b : Nat} {x : Ob}, S'[l]? = some x → obBlock E' x = some b → obBlock E' o = some b → False := fun {l b x} h1 h2 h3 => by
      rw [blk] at h3
      rcases hx.own b ⟨l, x, h1, h2⟩ with h | h
      · exact notin h3 h
      · have := (st.own_lt (oat h3)).1; omega
    rcases split q1 with h | ⟨k1, k2⟩ <;> rcases split g1 with h' | ⟨k3, k4⟩
    · exact st'.sep l l' b ⟨x, h, q2⟩ ⟨y, h', g2⟩
    · rw [k4] at g2; exact (cross h q2 g2).elim
    · rw [k2] at q2; exact (cross h' g2 q2).elim
    · rw [k1, k3]
  exact ⟨_, _, v, E', fz', h1, ⟨hx.env, hx.frz, e1, fun b hb hn => hx.keep b hb fun ho => hn (ownUp ho), e2, hx.size, hx.os, hx.output, hx.tape⟩, ⟨e3, e4, st'.fzlt, st'.fresh⟩, hr, rfl, rfl⟩

theorem row_push {S : Store} {l v : Nat} {o : Ob} {K : Nat → List AVal → Prop} (h : wRow S l v K) : wRow (S ++ [o]) l v K := by
  obtain ⟨k, cs, h1, h2⟩ := wRow_iff.1 h
  refine wRow_iff.2 ⟨k, cs, ?_, h2⟩
  rw [List.getElem?_append_left (List.getElem?_eq_some_iff.1 h1).1]; exact h1
theorem load_push {S : Store} {n : Nat} {ag : Bool} {x : AVal} {o : Ob} {K : AVal → Prop} (h : wLoad S n ag x K) : wLoad (S ++ [o]) n ag x K := by
  cases x <;> simp only [wLoad] at h ⊢ <;> first | exact h.elim | exact h | exact row_push h
theorem load_set {S : Store} {n i : Nat} {ag : Bool} {x : AVal} {o : Ob} {K : AVal → Prop} (hd : S[i]? = some .dead) (h : wLoad S n ag x K) : wLoad (S.set i o) n ag x K := by
  cases x <;> simp only [wLoad] at h ⊢ <;> first | exact h.elim | exact h | skip
  obtain ⟨k, cs, h1, h2⟩ := wRow_iff.1 h
  refine wRow_iff.2 ⟨k, cs, ?_, h2⟩
  rw [List.getElem?_set_ne (fun e => by subst e; rw [hd] at h1; cases h1)]; exact h1
theorem bytes_push {S : Store} {x : AVal} {o : Ob} {K : List UInt8 → Prop} (h : wBytes S x K) : wBytes (S ++ [o]) x K := by
  cases x <;> simp only [wBytes] at h ⊢ <;> first | exact h.elim | exact h | exact row_push h
/-- A quiet operation beside a new object. -/
theorem quiet_push {F : Frame} {S : Store} {o : Ob} {x : AVal} {so : SOp} (hq : so.quiet = true) (h : vcOpD P F S (fun y T => y = x ∧ T = S) so) : vcOpD P F (S ++ [o]) (fun y T => y = x ∧ T = S ++ [o]) so := by
  by_cases hf : so.free = true
  · obtain ⟨z, h1, h2⟩ := freeO hf (show vcO P true F S (fun y T => y = x ∧ T = S) so from h)
    exact h2 F (S ++ [o]) (fun y T => y = x ∧ T = S ++ [o]) (fun _ _ => rfl) ⟨h1.1, rfl⟩
  cases so <;> simp only [SOp.quiet] at hq <;> first | (cases hq; done) | (exact (hf rfl).elim) | (exact (hf hq).elim) | skip
  case call f xs =>
    simp only [vcOpD, rdsK_iff] at h ⊢
    obtain ⟨r0, h1, h2, h3⟩ := h
    exact ⟨r0, ACalls_push h1, h2, by trivial⟩
  case callv y xs =>
    simp only [vcOpD, rdK_iff, rdsK_iff] at h ⊢
    generalize rd F y = X at *
    cases X <;> first | exact h.elim | skip
    rename_i f first cap
    cases f <;> first | exact h.elim | skip
    cases first <;> first | exact h.elim | skip
    obtain ⟨hc, r0, h1, h2, h3⟩ := h
    exact ⟨hc, r0, ACalls_push h1, h2, by trivial⟩
  case b2s y =>
    simp only [vcOpD, vcOp, rdK_iff] at h ⊢
    obtain ⟨z, h1, h2⟩ := det_bytes _ (bytes_push (o := o) h)
    exact h2 _ ⟨h1.1, by trivial⟩
  case load n ag y =>
    simp only [vcOpD, vcOp, rdK_iff] at h ⊢
    obtain ⟨z, h1, h2⟩ := det_load _ (load_push (o := o) h)
    exact h2 _ ⟨h1.1, by trivial⟩
  case again t n ag y =>
    simp only [vcOpD, vcOp, rdK_iff] at h ⊢
    obtain ⟨z, h1, h2⟩ := det_load _ (load_push (o := o) h)
    exact h2 _ ⟨h1.1, h1.2.1, by trivial⟩
  case slice3 k y a b =>
    simp only [vcOpD, vcOp, rdK_iff] at h ⊢
    obtain ⟨n, h1, h2⟩ := det_idx _ h
    generalize rd F y = X at *
    cases X <;> simp only at h1 h2 ⊢ <;> first | exact h1.2.elim | skip
    · exact h2 _ ⟨h1.1, h1.2.1, h1.2.2.1, by trivial⟩
    · refine h2 _ ⟨h1.1, h1.2.1, row_push ?_⟩
      obtain ⟨k', cs, hl, e, hk⟩ := wRow_iff.1 h1.2.2
      exact wRow_iff.2 ⟨k', cs, hl, e, hk.1, by trivial⟩
  case slice k y lo hi =>
    cases k with
    | zero => exact (hf rfl).elim
    | succ k =>
      simp only [vcOpD, vcOp, rdK_iff] at h ⊢
      generalize rd F y = X at *
      cases X <;> first | exact h.elim | skip
      all_goals
        simp only at h ⊢
        obtain ⟨hh, h1, h2⟩ := det_hi _ h
        obtain ⟨j, h3, h4⟩ := det_lo _ h1
      · exact h2 _ (h4 _ ⟨h3.1, h3.2.1, h3.2.2.1, by trivial⟩)
      · refine h2 _ (h4 _ ⟨h3.1, h3.2.1, row_push ?_⟩)
        obtain ⟨k', cs, hl, e, hk⟩ := wRow_iff.1 h3.2.2
        exact wRow_iff.2 ⟨k', cs, hl, e, hk.1, by trivial⟩
      · exact h2 _ (h4 _ ⟨h3.1, h3.2.1, h3.2.2.1, h3.2.2.2.1, by trivial⟩)
  case iaddr k ar y i =>
    simp only [vcOpD, vcOp, rdK_iff] at h ⊢
    generalize rd F y = X at *
    obtain ⟨j, h1, h2⟩ := det_idx _ h
    cases X <;> cases ar <;> simp only at h1 h2 ⊢ <;> first | exact h1.elim | skip
    · exact h2 _ ⟨h1.1, h1.2.1, by trivial⟩
    · exact h2 _ ⟨h1.1, h1.2.1, by trivial⟩
    · obtain ⟨g1, g2⟩ := h1
      obtain ⟨k', cs, hl, e, hk⟩ := wRow_iff.1 g2
      exact h2 _ ⟨g1, row_push (wRow_iff.2 ⟨k', cs, hl, e, hk.1, by trivial⟩)⟩
    · obtain ⟨g1, xs, g2, g3⟩ := h1
      exact h2 _ ⟨g1, xs, g2, g3.1, by trivial⟩
theorem vcG_push {q : Bool} {g : GOp} {F : Frame} {S : Store} {o : Ob} {x : AVal} (hq : g.op.quiet = true) (hc : q = true ∨ g.op.isCall = false) (h : vcG P q g F S (fun y T => y = x ∧ T = S)) : vcG P q g F (S ++ [o]) (fun y T => y = x ∧ T = S ++ [o]) := by
  have hop : vcO P q F S (fun y T => splitG g.isG y fun y => y = x ∧ T = S) g.op → vcO P q F (S ++ [o]) (fun y T => splitG g.isG y fun y => y = x ∧ T = S ++ [o]) g.op := fun h => by
    obtain ⟨y, h1, h2⟩ := quietO hq hc h
    have h3 := h2 F (fun z T => z = y ∧ T = S) (fun _ _ => rfl) ⟨rfl, rfl⟩
    have h4 : vcOpD P F S (fun z T => z = y ∧ T = S) g.op := by
      cases q
      · rw [vcOpD_of (hc.resolve_left (by simp))]; exact h3
      · exact h3
    have h5 := quiet_push (o := o) hq h4
    have h6 : vcO P q F (S ++ [o]) (fun z T => z = y ∧ T = S ++ [o]) g.op := by
      cases q
      · exact vcOpD_op h5
      · exact h5
    refine vcO_mono h6 ?_
    rintro z T ⟨rfl, rfl⟩
    exact splitG_mono h1 fun z hz => ⟨hz.1, rfl⟩
  unfold vcG at h ⊢
  split
  · rename_i hg; rw [hg] at h; exact hop h
  · rename_i s want hg
    rw [hg] at h
    simp only at h
    generalize F.get s = c at *
    cases c <;> cases want <;> simp only at h ⊢ <;> first | exact h.elim | exact ⟨h.1, by trivial⟩ | exact hop h
theorem op_new {F : Frame} {S : Store} {K : AVal → Store → Prop} {so : SOp} (hn : so.isNew = true) (h : vcOp P F S K so) : vcOp P F S (fun y T => K y T ∧ ∃ o, T = S ++ [o]) so := by
  cases so <;> simp only [SOp.isNew] at hn <;> first | (cases hn; done) | skip
  case newnil k => simp only [vcOp, wPush_iff] at h ⊢; exact fun v => ⟨h v, _, rfl⟩
  case alloc k z => simp only [vcOp, wPush_iff] at h ⊢; exact fun v => ⟨h v, _, rfl⟩
  case box k x =>
    simp only [vcOp, wPush_iff, rdK_iff] at h ⊢
    exact wCells_mono h fun c h v => ⟨h v, _, rfl⟩
  case bslice ro len k z ps =>
    cases ro
    · simp only [vcOp, wPush_iff] at h ⊢
      exact wFill_mono h fun c h v => ⟨h v, _, rfl⟩
    · cases hn
  case s2b x =>
    simp only [vcOp, wPush_iff, rdK_iff] at h ⊢
    generalize rd F x = X at *
    cases X <;> first | exact h.elim | exact fun v => ⟨h v, _, rfl⟩
  case mkslice k b z x y =>
    simp only [vcOp, wPush_iff, rdK_iff] at h ⊢
    obtain ⟨kk, j, e, h1, h2, h3⟩ := wIdx_iff h
    rw [e] at h1 ⊢
    exact ⟨j, rfl, h1, h2, fun v => ⟨h3 v, _, rfl⟩⟩
theorem new_call {so : SOp} (hn : so.isNew = true) : so.isCall = false := by
  cases so <;> simp only [SOp.isNew] at hn <;> first | rfl | cases hn
theorem vcG_new {q : Bool} {g : GOp} {F : Frame} {S : Store} {K : AVal → Store → Prop} (hn : g.op.isNew = true) (h : vcG P q g F S K) : vcG P q g F S (fun y T => K y T ∧ (T = S ∨ ∃ o, T = S ++ [o])) := by
  have hop : vcO P q F S (fun y T => splitG g.isG y fun y => K y T) g.op → vcO P q F S (fun y T => splitG g.isG y fun y => K y T ∧ (T = S ∨ ∃ o, T = S ++ [o])) g.op := fun h => by
    rw [vcO_of (new_call hn)] at h ⊢
    exact op_mono (new_call hn) (op_new hn h) fun z T hz => splitG_mono hz.1 fun z h => ⟨h, .inr hz.2⟩
  unfold vcG at h ⊢
  split
  · rename_i hg; rw [hg] at h; exact hop h
  · rename_i s want hg
    rw [hg] at h
    simp only at h
    generalize F.get s = c at *
    cases c <;> cases want <;> simp only at h ⊢ <;> first | exact h.elim | exact ⟨h, .inl rfl⟩ | exact ⟨h, by simp⟩ | (simpa using h) | exact hop h

/-! ### The order of two -/
theorem put_comm {F : Frame} {a b : GOp} {x y : AVal} (hz : hazard a b = false) (t : Nat) : (putF (putF F a.dst x) b.dst y).get t = (putF (putF F b.dst y) a.dst x).get t := by
  simp only [putF_get]
  by_cases h1 : b.dst = some t
  · rw [if_pos h1]
    rw [if_neg]
    · rw [if_pos h1]
    · intro h2
      simp [hazard, h2, GOp.names, h1] at hz
  · rw [if_neg h1, if_neg h1]
theorem hz_reads {F : Frame} {a b : GOp} {x : AVal} (hz : hazard a b = false) : ∀ t ∈ b.reads, (putF F a.dst x).get t = F.get t := fun t ht => by
  rw [putF_get, if_neg]
  intro h
  have hm : t ∈ b.names := by
    simp only [GOp.reads, List.mem_append] at ht
    simp only [GOp.names, List.mem_append]
    rcases ht with h | h
    · exact .inl (.inr h)
    · exact .inr h
  simp [hazard, h, hm] at hz
theorem hz_symm {a b : GOp} (hz : hazard a b = false) : hazard b a = false := by
  simp only [hazard, Bool.or_eq_false_iff] at hz ⊢
  exact ⟨hz.2, hz.1⟩
theorem res_form {F : Frame} {so : SOp} {d : Nat} (h : so.resD = some d) : ∃ (C : Prop) (O : Nat → Ob) (V : Nat → Nat → AVal), ∀ (S : Store) (K : AVal → Store → Prop),
    vcOp P F S K so ↔ (C ∧ 0 < d ∧ d ≤ S.length ∧ S[S.length - d]? = some .dead ∧ ∀ v, K (V (S.length - d) v) (S.set (S.length - d) (O v))) := by
  cases so <;> simp only [SOp.resD, reduceCtorEq] at h
  case mkres d k b z x y =>
    cases h
    by_cases hx : ∃ (kk : IntKind) (j : Nat), rd F x = .int kk (j : Int)
    · obtain ⟨kk, j, e⟩ := hx
      refine ⟨rd F y = rd F x ∧ b * j ≤ 140737488355328, fun v => .row v k (List.replicate j z).flatten, fun l v => .sl l v 0 j, fun S K => ?_⟩
      simp only [vcOp, rdK_iff, e, wIdx]
      constructor
      · rintro ⟨j', e', h1, h2, h3, h4, h5, h6⟩
        have : j' = j := by omega
        subst this
        exact ⟨⟨h1, h2⟩, h3, h4, h5, h6⟩
      · rintro ⟨⟨h1, h2⟩, h3, h4, h5, h6⟩
        exact ⟨j, rfl, h1, h2, h3, h4, h5, h6⟩
    · refine ⟨False, fun _ => .dead, fun _ _ => .junk, fun S K => ⟨fun h => ?_, fun h => h.1.elim⟩⟩
      simp only [vcOp, rdK_iff] at h
      obtain ⟨kk, j, e, _⟩ := wIdx_iff h
      exact absurd ⟨kk, j, e⟩ hx
  case alres d k z =>
    cases h
    exact ⟨True, fun v => .row v k z, fun l v => .ptr l v 0, fun S K => by simp only [vcOp, true_and]⟩
theorem res_open {q : Bool} {g : GOp} {F : Frame} {S : Store} {K : AVal → Store → Prop} {d : Nat} (h1 : g.guard = none) (h2 : g.isG = false) (h3 : g.op.resD = some d) : vcG P q g F S K ↔ vcOp P F S K g.op := by
  have hc : g.op.isCall = false := by cases hg : g.op <;> rw [hg] at h3 <;> first | rfl | cases h3
  unfold vcG
  rw [h1, h2]
  simp only [splitG]
  rw [vcO_of hc]
theorem swap {qa qb : Bool} {a b : GOp} {F : Frame} {S : Store} {R : Frame → Store → Prop} (hok : mayPass qa qb a b = true) (hR : ∀ F F' S, (∀ t, F.get t = F'.get t) → R F S → R F' S)
    (h : vcG P qa a F S fun x S1 => vcG P qb b (putF F a.dst x) S1 fun y S2 => R (putF (putF F a.dst x) b.dst y) S2) :
    vcG P qb b F S fun y S1 => vcG P qa a (putF F b.dst y) S1 fun x S2 => R (putF (putF F b.dst y) a.dst x) S2 := by
  simp only [mayPass, Bool.and_eq_true, Bool.or_eq_true, Bool.not_eq_true'] at hok
  obtain ⟨hz, hok⟩ := hok
  rcases hok with ((hf | ⟨⟨ha, hca⟩, hn | ⟨hb, hcb⟩⟩) | hok) | hok
  · obtain ⟨x, h1, h2⟩ := vcG_free hf h
    have h3 := vcG_congr (F' := F) (hz_reads hz) h1
    exact vcG_mono h3 fun y S2 hy => h2 _ S2 _ (fun t ht => (hz_reads (hz_symm hz) t ht).symm) (hR _ _ _ (put_comm hz) hy)
  · obtain ⟨x, h1, h2⟩ := vcG_quiet ha hca h
    have h3 := vcG_new hn (vcG_congr (F' := F) (hz_reads hz) h1)
    refine vcG_mono h3 fun y S2 hy => ?_
    obtain ⟨hy, hS⟩ := hy
    have h4 := h2 (putF F b.dst y) (fun z T => z = x ∧ T = S) (fun t ht => (hz_reads (hz_symm hz) t ht).symm) ⟨rfl, rfl⟩
    have h5 : vcG P qa a (putF F b.dst y) S2 (fun z T => z = x ∧ T = S2) := by
      rcases hS with rfl | ⟨o, rfl⟩
      · exact h4
      · exact vcG_push ha hca h4
    refine vcG_mono h5 ?_
    rintro z T ⟨rfl, rfl⟩
    exact hR _ _ _ (put_comm hz) hy
  · obtain ⟨x, h1, h2⟩ := vcG_quiet ha hca h
    have h3 := vcG_congr (F' := F) (hz_reads hz) h1
    obtain ⟨y, h4, h5⟩ := vcG_quiet hb hcb h3
    exact h5 F _ (fun _ _ => rfl) (h2 _ _ (fun t ht => (hz_reads (hz_symm hz) t ht).symm) (hR _ _ _ (put_comm hz) h4))
  · split at hok
    · rename_i d d' ha hb
      simp only [Bool.and_eq_true, bne_iff_ne, ne_eq, Option.isNone_iff_eq_none, Bool.not_eq_true'] at hok
      obtain ⟨⟨⟨⟨hd, ga⟩, gb⟩, ia⟩, ib⟩ := hok
      have slo : ∀ {g h : GOp} {F : Frame} {v : AVal}, hazard g h = false → ∀ t ∈ h.op.slots, (putF F g.dst v).get t = F.get t := fun hz t ht => hz_reads hz t (by simp [GOp.reads, ht])
      obtain ⟨Ca, Oa, Va, fa⟩ := res_form (P := P) (F := F) ha
      obtain ⟨Cb, Ob_, Vb, fb⟩ := res_form (P := P) (F := F) hb
      rw [res_open ga ia ha, fa] at h
      obtain ⟨c1, c2, c3, c4, h6⟩ := h
      have hb' := fun v => op_congr (F' := F) (slo hz) ((res_open gb ib hb).1 (h6 v))
      obtain ⟨g1, g2, g3, g4, _⟩ := (fb _ _).1 (hb' 0)
      have hne : S.length - d ≠ S.length - d' := by rw [List.length_set] at g3; omega
      rw [List.length_set] at g3 g4
      rw [List.getElem?_set_ne hne] at g4
      rw [res_open gb ib hb, fb]
      refine ⟨g1, g2, g3, g4, fun v => ?_⟩
      rw [res_open ga ia ha]
      refine op_congr (F := F) (fun t ht => (slo (hz_symm hz) t ht).symm) ((fa _ _).2 ⟨c1, c2, by rw [List.length_set]; exact c3, ?_, fun v' => ?_⟩)
      · rw [List.length_set, List.getElem?_set_ne (Ne.symm hne)]; exact c4
      · have hh := ((fb _ _).1 (hb' v')).2.2.2.2 v
        simp only [List.length_set] at hh ⊢
        rw [List.set_comm _ _ hne] at hh
        exact hR _ _ _ (put_comm hz) hh
    · cases hok
  · simp only [Bool.and_eq_true, Option.isNone_iff_eq_none, Bool.not_eq_true', Option.isSome_iff_exists] at hok
    obtain ⟨⟨⟨⟨⟨hl, d, hb⟩, ga⟩, gb⟩, ia⟩, ib⟩ := hok
    cases ea : a.op <;> rw [ea] at hl <;> simp only [SOp.isLoad] at hl <;> first | (cases hl; done) | skip
    rename_i n ag r
    have open_ : ∀ {F : Frame} {S : Store} {K : AVal → Store → Prop}, vcG P qa a F S K ↔ wLoad S n ag (rd F r) fun x => K x S := fun {F S K} => by
      unfold vcG
      rw [ga, ia, ea]
      simp only [splitG]
      rw [vcO_of rfl]
      simp only [vcOp, rdK_iff]
    have sl : ∀ v, rd (putF F b.dst v) r = rd F r := fun v => rd_congr fun t ht => hz_reads (hz_symm hz) t (by simp [GOp.reads, ea, SOp.slots, ht])
    have slo : ∀ {v : AVal}, ∀ t ∈ b.op.slots, (putF F a.dst v).get t = F.get t := fun t ht => hz_reads hz t (by simp [GOp.reads, ht])
    rw [open_] at h
    obtain ⟨x, h1, h2⟩ := det_load _ h
    rw [res_open gb ib hb] at h1
    obtain ⟨Cb, Ob_, Vb, fb⟩ := res_form (P := P) (F := F) hb
    obtain ⟨c1, c2, c3, c4, c5⟩ := (fb _ _).1 (op_congr (F' := F) slo h1)
    rw [res_open gb ib hb, fb]
    refine ⟨c1, c2, c3, c4, fun v => ?_⟩
    rw [open_, sl]
    exact load_set c4 (h2 _ (hR _ _ _ (put_comm hz) (c5 v)))
theorem vcR_congr {K : Frame → Store → Prop} (hK : ∀ F F' S, (∀ t, F.get t = F'.get t) → K F S → K F' S) : ∀ (l : List (Nat × Bool × GOp)) (F F' : Frame) (S : Store), (∀ t, F.get t = F'.get t) → vcR P K l F S → vcR P K l F' S
  | [], F, F', S, he, h => hK _ _ _ he h
  | x :: l, F, F', S, he, h => by
    simp only [vcR] at h ⊢
    refine vcG_mono (vcG_congr (fun t _ => he t) h) fun y S' hy => ?_
    have hh : ∀ t, (putF F x.2.2.dst y).get t = (putF F' x.2.2.dst y).get t := fun t => by
      rw [putF_get, putF_get]
      split
      · rfl
      · exact he t
    exact ⟨chks_congr (fun k _ t _ => hh t) hy.1, vcR_congr hK l _ _ _ hh hy.2⟩
theorem vcR_mono {K K' : Frame → Store → Prop} (hk : ∀ F S, K F S → K' F S) : ∀ (l : List (Nat × Bool × GOp)) {F : Frame} {S : Store}, vcR P K l F S → vcR P K' l F S
  | [], F, S, h => hk _ _ h
  | x :: l, F, S, h => by
    simp only [vcR] at h ⊢
    exact vcG_mono h fun y S' hy => ⟨hy.1, vcR_mono hk l hy.2⟩
theorem pull {q : Bool} {a : GOp} {F : Frame} {S : Store} {Q : AVal → Store → Prop} {c : List (Nat × Nat × Bool × Rand)} (hq : a.op.quiet = true) (hc : q = true ∨ a.op.isCall = false) (hd : ∀ k ∈ c, ∀ d, a.dst = some d → d ∉ k.1 :: k.2.2.2.slots)
    (h : vcG P q a F S fun y S' => chks (putF F a.dst y) S' c ∧ Q y S') : chks F S c ∧ vcG P q a F S Q := by
  obtain ⟨y, h1, h2⟩ := vcG_quiet hq hc h
  refine ⟨chks_congr (fun k hk t ht => ?_) h1.1, h2 F Q (fun _ _ => rfl) h1.2⟩
  rw [putF_get, if_neg fun e => hd k hk t e ht]
theorem swapL {qa qb : Bool} {a b : GOp} {k : Nat × Nat × Bool × Rand} {F : Frame} {S : Store} {R : Frame → Store → Prop} (ha : a.op = .load k.2.1 k.2.2.1 k.2.2.2) (hd : a.dst = some k.1) (hg : a.guard = none) (hi : a.isG = false) (hs : k.1 ∉ k.2.2.2.slots)
    (hz : hazard a b = false) (hR : ∀ F F' S, (∀ t, F.get t = F'.get t) → R F S → R F' S)
    (h : vcG P qa a F S fun x S1 => vcG P qb b (putF F a.dst x) S1 fun y S2 => chk1 (putF (putF F a.dst x) b.dst y) S2 k ∧ R (putF (putF F a.dst x) b.dst y) S2) :
    vcG P qb b F S fun y S1 => vcG P qa a (putF F b.dst y) S1 fun x S2 => R (putF (putF F b.dst y) a.dst x) S2 := by
  obtain ⟨x, h1, _⟩ := vcG_quiet (by rw [ha]; rfl) (.inr (by rw [ha]; rfl)) h
  refine vcG_mono (vcG_congr (F' := F) (hz_reads hz) h1) fun y S2 ⟨hk, hy⟩ => ?_
  have hn : ∀ t ∈ k.1 :: k.2.2.2.slots, b.dst ≠ some t := fun t ht e => by
    have : t ∈ a.names := by
      simp only [GOp.names, ha, hd, SOp.slots, Option.toList_some, List.mem_append, List.mem_singleton]
      rcases List.mem_cons.1 ht with rfl | ht
      · exact .inl (.inl rfl)
      · exact .inl (.inr ht)
    simp [hazard, e, this] at hz
  have e1 : (putF (putF F a.dst x) b.dst y).get k.1 = x := by
    rw [putF_get, if_neg (hn k.1 (by simp)), putF_get, if_pos hd]
  have e2 : rd (putF (putF F a.dst x) b.dst y) k.2.2.2 = rd (putF F b.dst y) k.2.2.2 := rd_congr fun t ht => by
    rw [putF_get, if_neg (hn t (by simp [ht])), putF_get, if_neg, putF_get, if_neg (hn t (by simp [ht]))]
    rw [hd]; intro e; cases e; exact hs ht
  unfold chk1 at hk
  rw [e1, e2] at hk
  obtain ⟨z, ez, hk2⟩ := det_load _ hk
  have ez : z = x := ez
  subst ez
  unfold vcG
  rw [hg, hi, ha]
  have hcl : SOp.isCall (.load k.2.1 k.2.2.1 k.2.2.2) = false := rfl
  simp only [splitG]
  rw [vcO_of hcl]
  simp only [vcOp, rdK_iff]
  exact hk2 _ (hR _ _ _ (put_comm hz) hy)
theorem bubble {K : Frame → Store → Prop} (hK : ∀ F F' S, (∀ t, F.get t = F'.get t) → K F S → K F' S) {x : Nat × Bool × GOp} {B : List (Nat × Bool × GOp)} : ∀ (A : List (Nat × Bool × GOp)) (c : List (Nat × Nat × Bool × Rand)) {F : Frame} {S : Store}, (∀ a ∈ A, mayPass2 a.2.1 x.2.1 a.2.2 x.2.2 = true) →
    (∀ k ∈ c, k ∈ x.2.2.chk) → (∀ a ∈ A, ∀ k ∈ c, ∀ d, a.2.2.dst = some d → d ∉ k.1 :: k.2.2.2.slots) → (x.2.2.chk = [] ∨ A.Pairwise fun a a' => a.2.2.op.isLoad = true → ∀ d, a'.2.2.dst = some d → d ∉ a.2.2.names) →
    vcR P K (A ++ x :: B) F S → vcG P x.2.1 x.2.2 F S fun y S' => chks (putF F x.2.2.dst y) S' c ∧ vcR P K (A ++ B) (putF F x.2.2.dst y) S'
  | [], c, F, S, _, hc, _, _, h => by
    simp only [List.nil_append, vcR] at h
    exact vcG_mono h fun y S' hy => ⟨fun k hk => hy.1 k (hc k hk), hy.2⟩
  | a :: A, c, F, S, hA, hc, hw, hp, h => by
    have h' : vcR P K (a :: (A ++ x :: B)) F S := h
    simp only [vcR] at h'
    have hok := hA a (by simp)
    simp only [mayPass2, Bool.and_eq_true, Bool.or_eq_true, List.isEmpty_iff, Bool.not_eq_true'] at hok
    obtain ⟨hac, hok⟩ := hok
    have fin : ∀ {y : AVal} {S' : Store}, vcR P K (A ++ B) (putF (putF F x.2.2.dst y) a.2.2.dst y) S' → True := fun _ => trivial
    have hp' : x.2.2.chk = [] ∨ A.Pairwise fun a a' => a.2.2.op.isLoad = true → ∀ d, a'.2.2.dst = some d → d ∉ a.2.2.names := hp.imp id fun h => (List.pairwise_cons.1 h).2
    have done : ∀ {y : AVal} {S' : Store}, chks (putF F x.2.2.dst y) S' c ∧ (vcG P a.2.1 a.2.2 (putF F x.2.2.dst y) S' fun z T => vcR P K (A ++ B) (putF (putF F x.2.2.dst y) a.2.2.dst z) T) → chks (putF F x.2.2.dst y) S' c ∧ vcR P K (a :: A ++ B) (putF F x.2.2.dst y) S' := fun ⟨g1, g2⟩ => by
      refine ⟨g1, ?_⟩
      simp only [List.cons_append, vcR]
      refine vcG_mono g2 fun z T hz => ⟨?_, hz⟩
      rw [hac]
      intro k hk
      cases hk
    have hRc : ∀ (c : List (Nat × Nat × Bool × Rand)) (F F' : Frame) (S : Store), (∀ t, F.get t = F'.get t) → chks F S c ∧ vcR P K (A ++ B) F S → chks F' S c ∧ vcR P K (A ++ B) F' S := fun c F F' S he hh => ⟨chks_congr (fun k _ t _ => he t) hh.1, vcR_congr hK (A ++ B) _ _ _ he hh.2⟩
    rcases hok with ⟨hm, hq⟩ | ⟨hz, hl⟩
    · have h2 := vcG_mono h' fun y S' hy => bubble hK A c (fun b hb => hA b (by simp [hb])) hc (fun b hb => hw b (by simp [hb])) hp' hy.2
      have h3 := swap hm (R := fun F S => chks F S c ∧ vcR P K (A ++ B) F S) (hRc c) h2
      refine vcG_mono h3 fun y S' hy => done ?_
      rcases hq with hq | ⟨hq, hcl⟩
      · have : c = [] := by
          cases c with
          | nil => rfl
          | cons k c => have := hc k (by simp); rw [hq] at this; cases this
        subst this
        exact ⟨fun k hk => (by cases hk), vcG_mono hy fun z T hz => hz.2⟩
      · exact pull hq hcl (hw a (by simp)) hy
    · unfold passLoad at hl
      split at hl
      case h_2 => cases hl
      rename_i n ag r t hop hdst
      simp only [Bool.and_eq_true, Option.isNone_iff_eq_none, Bool.not_eq_true', bne_iff_ne, ne_eq, List.any_eq_true, beq_iff_eq] at hl
      obtain ⟨⟨⟨hg, hi⟩, htr⟩, ⟨k1, k2, k3, k4⟩, hk, ⟨⟨e1, e2⟩, e3⟩, e4⟩ := hl
      subst e1; subst e2; subst e3
      split at e4
      case h_2 => cases e4
      rename_i s hs4
      simp only [beq_iff_eq] at e4
      subst e4
      subst hs4
      have hne : x.2.2.chk ≠ [] := fun e => by rw [e] at hk; cases hk
      have hpa := hp.resolve_left hne
      have hnames : ∀ t ∈ k1 :: Rand.slots (.t s), t ∈ a.2.2.names := fun t ht => by
        simp only [GOp.names, hop, hdst, SOp.slots, Option.toList_some, List.mem_append, List.mem_singleton]
        rcases List.mem_cons.1 ht with rfl | ht
        · exact .inl (.inl rfl)
        · exact .inl (.inr ht)
      have h2 := vcG_mono h' fun y S' hy => bubble hK A ((k1, k2, k3, .t s) :: c) (fun b hb => hA b (by simp [hb])) (fun k hk' => by
          rcases List.mem_cons.1 hk' with rfl | hk'
          · exact hk
          · exact hc k hk') (fun b hb k hk' d hd => by
          rcases List.mem_cons.1 hk' with rfl | hk'
          · exact fun hm => (List.pairwise_cons.1 hpa).1 b hb (by rw [hop]; rfl) d hd (hnames d hm)
          · exact hw b (by simp [hb]) k hk' d hd) hp' hy.2
      have h3 := vcG_mono h2 fun y S' hy => vcG_mono hy fun z T hz => show chk1 (putF (putF F a.2.2.dst y) x.2.2.dst z) T (k1, k2, k3, .t s) ∧ (chks (putF (putF F a.2.2.dst y) x.2.2.dst z) T c ∧ vcR P K (A ++ B) (putF (putF F a.2.2.dst y) x.2.2.dst z) T) from
        ⟨hz.1 _ (by simp), fun k hk => hz.1 k (by simp [hk]), hz.2⟩
      have h4 := swapL (k := (k1, k2, k3, .t s)) (R := fun F S => chks F S c ∧ vcR P K (A ++ B) F S) hop hdst hg hi (by simpa [Rand.slots] using htr) hz (hRc c) h3
      refine vcG_mono h4 fun y S' hy => done ?_
      exact pull (by rw [hop]; rfl) (.inr (by rw [hop]; rfl)) (hw a (by simp)) hy

theorem vcR_of : ∀ (π : List Nat) {gl : List GOp} {K : Frame → Store → Prop} {m : Nat} {F : Frame} {S : Store}, noChk ((permG π gl).take m) = true → vcOpsD P K m (expandG (permG π gl)) F S → vcR P K (numG gl m π) F S
  | [], gl, K, m, F, S, _, h => by
    cases m <;> simpa [permG, expandG, numG, vcR, vcOpsD, vcOps] using h
  | i :: π, gl, K, m, F, S, hn, h => by
    have e : permG (i :: π) gl = gl.getD i default :: permG π gl := rfl
    rw [e] at h hn
    have hn' : noChk ((permG π gl).take (m - 1)) = true := by
      cases m with
      | zero => simp [noChk]
      | succ m =>
        simp only [List.take_succ_cons, noChk, List.all_cons, Bool.and_eq_true] at hn
        exact hn.2
    have rec0 : ∀ {F : Frame} {S : Store}, vcOpsD P K (m - 1) (expandG (permG π gl)) F S → vcR P K (numG gl (m - 1) π) F S := fun h => vcR_of π hn' h
    simp only [numG, vcR]
    simp only [expandG] at h
    generalize gl.getD i default = o at *
    have hm0 : m ≠ 0 → o.chk = [] := fun h0 => by
      cases m with
      | zero => exact (h0 rfl).elim
      | succ m =>
        simp only [List.take_succ_cons, noChk, List.all_cons, Bool.and_eq_true, List.isEmpty_iff] at hn
        exact hn.1
    have rec_ : ∀ {F : Frame} {S : Store}, vcOpsD P K (m - 1) (o.chk.map againG ++ expandG (permG π gl)) F S → chks F S o.chk ∧ vcR P K (numG gl (m - 1) π) F S := fun h => by
      by_cases h0 : m = 0
      · subst h0
        obtain ⟨h1, h2⟩ := chks_ops _ h
        exact ⟨h1, rec0 h2⟩
      · rw [hm0 h0] at h ⊢
        exact ⟨fun k hk => (by cases hk), rec0 h⟩
    unfold vcG
    cases m with
    | zero =>
      simp only [vcOpsD, vcOps] at h
      simp only [vcOpsD, Nat.zero_sub] at rec_
      have hop : vcOp P F S (fun x S' => splitG o.isG x fun x => vcOps P K (o.chk.map againG ++ expandG (permG π gl)) (putF F o.dst x) S') o.op → vcO P (decide (0 < 0)) F S (fun x S' => splitG o.isG x fun x => chks (putF F o.dst x) S' o.chk ∧ vcR P K (numG gl (0 - 1) π) (putF F o.dst x) S') o.op := fun h =>
        vcO_mono (q := false) (show vcO P false F S (fun x S' => splitG o.isG x fun x => vcOps P K (o.chk.map againG ++ expandG (permG π gl)) (putF F o.dst x) S') o.op from h) fun x S' h => splitG_mono h fun x h => rec_ h
      cases hg : o.guard with
      | none => rw [hg] at h; exact hop h
      | some sw =>
        obtain ⟨g, want⟩ := sw
        rw [hg] at h
        simp only [getK_iff] at h ⊢
        generalize F.get g = c at *
        cases c <;> cases want <;> simp only at h ⊢ <;> first | exact h.elim | exact hop h | exact rec_ h
    | succ m =>
      simp only [vcOpsD] at h
      simp only [Nat.add_sub_cancel] at rec_
      have hop : vcOpD P F S (fun x S' => splitG o.isG x fun x => vcOpsD P K m (o.chk.map againG ++ expandG (permG π gl)) (putF F o.dst x) S') o.op → vcO P (decide (0 < m + 1)) F S (fun x S' => splitG o.isG x fun x => chks (putF F o.dst x) S' o.chk ∧ vcR P K (numG gl (m + 1 - 1) π) (putF F o.dst x) S') o.op := fun h => by
        rw [show decide (0 < m + 1) = true from by simp]
        exact vcO_mono (q := true) (show vcO P true F S (fun x S' => splitG o.isG x fun x => vcOpsD P K m (o.chk.map againG ++ expandG (permG π gl)) (putF F o.dst x) S') o.op from h) fun x S' h => splitG_mono h fun x h => rec_ h
      cases hg : o.guard with
      | none => rw [hg] at h; exact hop h
      | some sw =>
        obtain ⟨g, want⟩ := sw
        rw [hg] at h
        simp only [getK_iff] at h ⊢
        generalize F.get g = c at *
        cases c <;> cases want <;> simp only at h ⊢ <;> first | exact h.elim | exact hop h | exact rec_ h

/-- **Whatever order is taken.** -/
theorem any_order {ops : Array Oper} {hint gl : List GOp} {W : List Nat} {Q : Exit → Act → World → Prop} {K : Frame → Store → Prop} {E0 : Env} {fz0 : Nat → Prop} {S0 : Store} {w0 : World} {a0 : Act}
    (hc : cOps P N ops ops.toList hint = some gl) (hedge : ∀ (j : Nat) o, ops[j]? = some o → ∀ e ∈ o.after, Region.binds .any e = true → e.on < j) (hW : ∀ g ∈ gl, ∀ t, g.dst = some t → t ∈ W)
    (hK : ∀ F F' S, (∀ t, F.get t = F'.get t) → K F S → K F' S) (hQ : ∀ a' w', After N E0 fz0 S0 w0 a0 W K a' w' → Q .normal a' w') :
    ∀ (fuel : Nat) (R : List (Nat × Bool × GOp)) (D : Array Bool) (a : Act) (w : World) (E : Env) (fz : Nat → Prop) (S : Store) (F : Frame), D.size = ops.size → Closed ops D → (∀ j, j < ops.size → (D.getD j false = false ↔ ∃ x ∈ R, x.1 = j)) →
      R.Pairwise (fun x y => okPair ops (noChk gl) x y = true) → (∀ x ∈ R, x.2.2 = gl.getD x.1 default ∧ x.1 < ops.size) → (R.map (·.1)).Nodup → R.length ≤ fuel → vcR P K R F S →
      Ext E0 fz0 S0 w0 E fz S w → St E fz S w → RelF E fz w F a.tmps → a.tmps.size = N → a.defers = a0.defers → (∀ t, t ∉ W → a.tmps[t]? = a0.tmps[t]?) → wpAny P .any ops Q fuel D a w := by
  obtain ⟨hlen, hget⟩ := cOps_get hc
  intro fuel
  induction fuel with
  | zero =>
    intro R D a w E fz S F hsz hcl hD hp hx hnd hf h hx0 st hF hN hd hu
    have hR : R = [] := List.length_eq_zero_iff.1 (by omega)
    subst hR
    refine ⟨List.eq_nil_iff_forall_not_mem.2 fun i hi => ?_, hQ a w ⟨F, S, E, fz, h, hx0, st, hF, hN, hd, hu⟩⟩
    obtain ⟨h0, o, ho, _⟩ := mem_ready.1 hi
    have hlt := (Array.getElem?_eq_some_iff.1 ho).1
    rw [getD_true (by omega)] at h0
    obtain ⟨x, hx, _⟩ := (hD i hlt).1 h0
    cases hx
  | succ fuel ih =>
    intro R D a w E fz S F hsz hcl hD hp hx hnd hf h hx0 st hF hN hd hu
    refine ⟨fun hr => ?_, fun i hi => ?_⟩
    · have hall := not_stuck hedge hsz hr
      have hR : R = [] := List.eq_nil_iff_forall_not_mem.2 fun x hx' => by
        have h1 := (hx x hx').2
        have h2 := (hD x.1 h1).2 ⟨x, hx', rfl⟩
        rw [hall _ h1] at h2; cases h2
      subst hR
      exact hQ a w ⟨F, S, E, fz, h, hx0, st, hF, hN, hd, hu⟩
    · obtain ⟨h0, o, ho, ha⟩ := mem_ready.1 hi
      have hlt := (Array.getElem?_eq_some_iff.1 ho).1
      rw [getD_true (by omega)] at h0
      obtain ⟨x, hxm, hxi⟩ := (hD i hlt).1 h0
      obtain ⟨A, B, rfl⟩ := List.append_of_mem hxm
      rw [List.pairwise_append] at hp
      obtain ⟨hpA, hpB, hpAB⟩ := hp
      have hpass : ∀ b ∈ A, mayPass2 b.2.1 x.2.1 b.2.2 x.2.2 = true := fun b hb => by
        have h1 := hpAB b hb x (by simp)
        simp only [okPair, Bool.and_eq_true] at h1
        have h1 := h1.1
        simp only [Bool.or_eq_true] at h1
        rcases h1 with h1 | h1
        · rw [hxi] at h1
          have h2 := ready_wait hcl hi h1
          have h3 := (hD b.1 (hx b (by simp [hb])).2).2 ⟨b, by simp [hb], rfl⟩
          rw [h2] at h3; cases h3
        · exact h1
      have hch : x.2.2.chk = [] ∨ A.Pairwise fun a a' => a.2.2.op.isLoad = true → ∀ d, a'.2.2.dst = some d → d ∉ a.2.2.names := by
        by_cases hnc : noChk gl = true
        · refine .inl ?_
          obtain ⟨x1, x2⟩ := hx x (by simp)
          have hxl : x.1 < gl.length := by rw [← hlen]; simpa using x2
          simp only [noChk, List.all_eq_true, List.isEmpty_iff] at hnc
          refine hnc _ ?_
          rw [x1, List.getD_eq_getElem?_getD, List.getElem?_eq_getElem hxl]
          simp
        · refine .inr (hpA.imp fun {a a'} hq hld d hd => ?_)
          simp only [okPair, Bool.and_eq_true, Bool.or_eq_true, hnc, false_or, Bool.false_eq_true, Bool.not_eq_true', hld, Bool.true_eq_false] at hq
          have := hq.2
          simp only [overB, hd, List.contains_eq_mem, decide_eq_false_iff_not] at this
          exact this
      have hb := vcG_mono (bubble hK A [] hpass (fun k hk => (by cases hk)) (fun a _ k hk => (by cases hk)) hch h) fun y S' hy => hy.2
      obtain ⟨g, ro, hg, hcop, hgd, hdst, hdo⟩ := hget i o (by simpa using ho)
      have hxg : x.2.2 = g := by rw [(hx x (by simp)).1, hxi, List.getD_eq_getElem?_getD, hg]; rfl
      rw [hxg] at hb
      refine op_step ho hcop hgd st hF hb fun y S' E' fz' w' v hk' hx' hs hr => ?_
      have nd : ∀ b ∈ A ++ B, b.1 ≠ i := fun b hb e => by
        simp only [List.map_append, List.map_cons, List.nodup_append, List.nodup_cons, List.mem_map, List.mem_cons] at hnd
        rcases List.mem_append.1 hb with hb | hb
        · exact hnd.2.2 b.1 ⟨b, hb, rfl⟩ x.1 (.inl rfl) (by rw [e, hxi])
        · exact hnd.2.1.1 ⟨b, hb, by rw [e, hxi]⟩
      refine ih (A ++ B) _ _ w' E' fz' S' (putF F g.dst y) (by simpa using hsz) (closed_set hcl hsz hi) (fun j hj => ?_) ?_ (fun z hz => hx z ?_) ?_ ?_ hk' (hx0.trans hx') hs (by rw [hdst]; exact relF_put (RelF.mono st hx' hF) hr (by rw [hN]; exact hdo)) (by rw [put_size]; exact hN) (by rw [put_defers]; exact hd) fun t ht => ?_
      · rw [getD_set (by omega)]
        by_cases e : j = i
        · rw [if_pos e]
          refine ⟨fun h => (by cases h), fun ⟨b, hb, e'⟩ => (nd b hb (by rw [e', e])).elim⟩
        · rw [if_neg e, hD j hj]
          constructor
          · rintro ⟨b, hb, e'⟩
            refine ⟨b, ?_, e'⟩
            rcases List.mem_append.1 hb with hb | hb
            · exact List.mem_append.2 (.inl hb)
            · rcases List.mem_cons.1 hb with rfl | hb
              · exact (e (by rw [← e', hxi])).elim
              · exact List.mem_append.2 (.inr hb)
          · rintro ⟨b, hb, e'⟩
            refine ⟨b, ?_, e'⟩
            rcases List.mem_append.1 hb with hb | hb
            · exact List.mem_append.2 (.inl hb)
            · exact List.mem_append.2 (.inr (List.mem_cons_of_mem _ hb))
      · exact List.pairwise_append.2 ⟨hpA, (List.pairwise_cons.1 hpB).2, fun b hb c hc => hpAB b hb c (List.mem_cons_of_mem _ hc)⟩
      · rcases List.mem_append.1 hz with hb | hb
        · exact List.mem_append.2 (.inl hb)
        · exact List.mem_append.2 (.inr (List.mem_cons_of_mem _ hb))
      · simp only [List.map_append, List.map_cons, List.nodup_append, List.nodup_cons] at hnd ⊢
        exact ⟨hnd.1, hnd.2.1.2, fun b hb c hc => hnd.2.2 b hb c (List.mem_cons_of_mem _ hc)⟩
      · simp only [List.length_append, List.length_cons] at hf ⊢; omega
      · rw [put_other, hu t ht]
        intro e
        exact ht (hW g (List.mem_of_getElem? hg) t (by rw [hdst, e]))

theorem allPairs_iff {ops : Array Oper} {nc : Bool} : ∀ {l : List (Nat × Bool × GOp)}, allPairs ops nc l = true → l.Pairwise (fun x y => okPair ops nc x y = true)
  | [], _ => .nil
  | x :: l, h => by
    simp only [allPairs, Bool.and_eq_true, List.all_eq_true] at h
    exact .cons h.1 (allPairs_iff h.2)
theorem numG_map {gl : List GOp} : ∀ (π : List Nat) (m : Nat), (numG gl m π).map (·.1) = π
  | [], _ => rfl
  | i :: π, m => by simp [numG, numG_map π]
theorem numG_mem {gl : List GOp} : ∀ {π : List Nat} {m : Nat} {x : Nat × Bool × GOp}, x ∈ numG gl m π → x.2.2 = gl.getD x.1 default ∧ x.1 ∈ π
  | [], _, _, h => by simp [numG] at h
  | i :: π, m, x, h => by
    simp only [numG] at h
    rcases List.mem_cons.1 h with rfl | h
    · exact ⟨rfl, by simp⟩
    · have := numG_mem h; exact ⟨this.1, by simp [this.2]⟩
theorem nodup_of : ∀ {l : List Nat}, nodupB l = true → l.Nodup
  | [], _ => .nil
  | a :: l, h => by
    simp only [nodupB, Bool.and_eq_true, Bool.not_eq_true', List.contains_eq_mem, decide_eq_false_iff_not] at h
    exact List.nodup_cons.2 ⟨h.1, nodup_of h.2⟩

theorem expand_mem {g : GOp} : ∀ {l : List GOp}, g ∈ l → g ∈ expandG l
  | [], h => by cases h
  | o :: l, h => by
    rcases List.mem_cons.1 h with rfl | h
    · simp [expandG]
    · simp only [expandG]
      exact List.mem_cons_of_mem _ (List.mem_append.2 (.inr (expand_mem h)))
theorem draw_region {id : Nat} {ops : Array Oper} {hint gl : List GOp} {m : Nat} {π : List Nat} (hc : cOps P N ops ops.toList hint = some gl) (hok : drawOk ops m π gl = true) (hf : P.follows .mixedOrders = true)
    {K : Frame → Store → Prop} {E : Env} {fz : Nat → Prop} {S : Store} {w : World} {F : Frame} {a : Act} (st : St E fz S w) (hF : RelF E fz w F a.tmps) (hN : a.tmps.size = N) (h : vcOpsD P K m (expandG (permG π gl)) F S) :
    (Code.region id ops true).wp P (fun e a' w' => e = .normal ∧ After N E fz S w a (gWrites (expandG (permG π gl))) K a' w') a w := by
  obtain ⟨hlen, hget⟩ := cOps_get hc
  simp only [drawOk, Bool.and_eq_true, List.all_eq_true, List.mem_range, decide_eq_true_eq, List.contains_eq_mem] at hok
  obtain ⟨⟨⟨⟨⟨k1, k2⟩, k3⟩, k4⟩, k5⟩, k6⟩ := hok
  obtain ⟨st', hx'⟩ := st.same (w' := { w with drawn := w.drawn + 1 }) rfl rfl rfl ⟨rfl, Nat.le_succ _⟩
  have hrep : ∀ j, (Array.replicate ops.size false).getD j false = false := fun j => by
    rw [Array.getD_eq_getD_getElem?]
    cases hj : (Array.replicate ops.size false)[j]? with
    | none => rfl
    | some b => simp [Array.getElem?_replicate] at hj; simp [hj.2]
  have hm := numG_map (gl := gl) π m
  have hnd := nodup_of k1
  have hlen2 : (numG gl m π).length ≤ ops.size := by
    have h1 : (numG gl m π).length = π.length := by have := congrArg List.length hm; simpa only [List.length_map] using this
    rw [h1]
    have h2 : π.length ≤ (List.range ops.size).length := by
      refine hnd.length_le_of_subset fun i hi => List.mem_range.2 (k2 i hi)
    simpa using h2
  have hWr : ∀ g ∈ gl, ∀ t, g.dst = some t → t ∈ gWrites (expandG (permG π gl)) := fun g hg t ht => by
    obtain ⟨i, hi, e⟩ := List.getElem_of_mem hg
    have hin : i < ops.size := by have : ops.toList.length = gl.length := hlen; simp at this; omega
    refine gWrites_mem (g := g) (expand_mem ?_) ht
    simp only [permG, List.mem_map]
    exact ⟨i, k3 i hin, by rw [List.getD_eq_getElem?_getD, List.getElem?_eq_getElem hi, e]; rfl⟩
  have hv := vcR_mono (K' := fun F' S' => ∃ F0, (∀ t, F0.get t = F'.get t) ∧ K F0 S') (fun F' S' h => ⟨F', fun _ => rfl, h⟩) _ (vcR_of π k6 h)
  have g1 : ∀ (j : Nat) o, ops[j]? = some o → ∀ e ∈ o.after, Region.binds .any e = true → e.on < j := fun j o ho e he hb => by
    have hj : j < ops.size := (Array.getElem?_eq_some_iff.1 ho).1
    have := k4 j hj
    rw [ho] at this
    have := (Array.all_eq_true_iff_forall_mem.1 this) e he
    simpa [hb] using this
  have g2 : ∀ a' w', After N E fz S w a (gWrites (expandG (permG π gl))) (fun F' S' => ∃ F0, (∀ t, F0.get t = F'.get t) ∧ K F0 S') a' w' → After N E fz S w a (gWrites (expandG (permG π gl))) K a' w' := fun a' w' hA => by
    obtain ⟨F', S', E', fz', ⟨F0, q0, q1⟩, q2, q3, q4, q5, q6, q7⟩ := hA
    exact ⟨F0, S', E', fz', q1, q2, q3, fun t => by rw [q0]; exact q4 t, q5, q6, q7⟩
  have g3 : ∀ j, j < ops.size → ((Array.replicate ops.size false).getD j false = false ↔ ∃ x ∈ numG gl m π, x.1 = j) := fun j hj => by
    refine ⟨fun _ => ?_, fun _ => hrep j⟩
    have h1 : j ∈ (numG gl m π).map (·.1) := by rw [hm]; exact k3 j hj
    obtain ⟨x, h2, h3⟩ := List.mem_map.1 h1
    exact ⟨x, h2, h3⟩
  have g4 : ∀ x ∈ numG gl m π, x.2.2 = gl.getD x.1 default ∧ x.1 < ops.size := fun x hx => by
    obtain ⟨h1, h2⟩ := numG_mem hx
    exact ⟨h1, k2 _ h2⟩
  exact wp_region_any hf (any_order hc g1 hWr (fun F1 F2 S1 he ⟨F0, h1, h2⟩ => ⟨F0, fun t => (h1 t).trans (he t), h2⟩) (fun a' w' hA => ⟨rfl, g2 a' w' hA⟩) ops.size (numG gl m π) _ a _ E fz S F (by simp) (fun j o _ hj => by rw [hrep] at hj; cases hj) g3 (allPairs_iff k5) g4 (by rw [hm]; exact hnd) hlen2 hv hx' st' (RelF.mono st hx' hF) hN rfl (fun _ _ => rfl))
end
end Go.Vc
