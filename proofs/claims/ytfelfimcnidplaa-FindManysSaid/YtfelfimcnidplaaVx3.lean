/-
  The abstract reading of the model, third part (texts that were VxQ, VxN, VxP, VxR, VxS, VxT, VxU).
-/
import Derived.Test.YtfelfimcnidplaaVx2
import Derived.Orders
import Derived.Deep.LoopGhost
import Derived.ProofKit
import Derived.Below
import Derived.Carry
import Derived.JoinedCond

/-
  A region whose order is open: whatever order its edges allow, it comes to what the order of the text comes to.
-/
section
set_option linter.unusedVariables false
set_option linter.unusedSimpArgs false
namespace Go.Vc

/-- Does operation j wait for operation i, by the edges? -/
def reach (ops : Array Oper) : Nat → Nat → Nat → Bool
  | 0, _, _ => false
  | f + 1, j, i => match ops[j]? with
    | none => false
    | some o => (o.after.any fun e => Region.binds .any e && e.on == i) || (o.after.any fun e => Region.binds .any e && decide (i < e.on) && reach ops f e.on i)

def GOp.names (g : GOp) : List Nat := g.dst.toList ++ g.op.slots ++ (match g.guard with | some (s, _) => [s] | none => [])

/-- Do two operations name a slot that one of them writes? -/
def hazard (g h : GOp) : Bool := (match g.dst with | some d => h.names.contains d | none => false) || (match h.dst with | some d => g.names.contains d | none => false)

/-- What hangs on its slots alone. -/
def SOp.free : SOp → Bool
  | .mov _ | .pick _ _ _ | .build _ _ | .nilchk _ | .bin _ _ _ _ | .strid _ | .not _ | .neg _ | .conv _ _ | .faddr _ _ | .field _ _ _ _ | .index _ _ _ _ _ | .len _ _
  | .min _ | .max _ | .mkfunc _ _ _ | .extract _ _ | .ext _ _ | .slice 0 _ _ _ | .mkif _ _ => true
  | .bslice ro _ _ _ _ => ro
  | _ => false
def SOp.isCall : SOp → Bool
  | .call _ _ | .callv _ _ => true
  | _ => false
/-- What lays one new object behind the others. -/
def SOp.isNew : SOp → Bool
  | .newnil _ | .alloc _ _ | .box _ _ | .mkslice _ _ _ _ _ | .s2b _ | .mkmap | .mrange _ => true
  | .bslice ro _ _ _ _ => !ro
  | _ => false
def SOp.isLoad : SOp → Bool
  | .load _ _ _ => true
  | _ => false
/-- A load that is looked at once more behind what may go ahead of it. -/
def passLoad (g h : GOp) : Bool := match g.op, g.dst with
  | .load n ag (.t r), some t => g.guard.isNone && !g.isG && t != r && h.chk.any fun k => k.1 == t && k.2.1 == n && k.2.2.1 == ag && (match k.2.2.2 with | .t s => s == r | _ => false)
  | _, _ => false
/-- What lays a new object at a place that was kept for it. -/
def SOp.resD : SOp → Option Nat
  | .mkres d _ _ _ _ _ => some d
  | .alres d _ _ => some d
  | _ => none
/-- May the second of two that do not wait for each other go ahead of the first one? (q: are they among the first ones?) -/
def mayPass (qa qb : Bool) (g h : GOp) : Bool := !hazard g h && (g.op.free || (g.op.quiet && (qa || !g.op.isCall) && (h.op.isNew || (h.op.quiet && (qb || !h.op.isCall)))) || (match g.op.resD, h.op.resD with
    | some d, some d' => d != d' && g.guard.isNone && h.guard.isNone && !g.isG && !h.isG
    | _, _ => false) || (g.op.isLoad && h.op.resD.isSome && g.guard.isNone && h.guard.isNone && !g.isG && !h.isG))
def mayPass2 (qa qb : Bool) (g h : GOp) : Bool := g.chk.isEmpty && ((mayPass qa qb g h && (h.chk.isEmpty || (g.op.quiet && (qa || !g.op.isCall)))) || (!hazard g h && passLoad g h))
def overB (d : Option Nat) (l : List Nat) : Bool := match d with | some d => l.contains d | none => false

def permG (π : List Nat) (gl : List GOp) : List GOp := π.map fun i => gl.getD i default
def unperm (π : List Nat) (l : List GOp) : List GOp := (List.range π.length).map fun i => l.getD (π.findIdx fun j => j == i) default
/-- Operations in the order of the text, with their numbers; of the first m it is known that they come first. -/
def numG (gl : List GOp) : Nat → List Nat → List (Nat × Bool × GOp)
  | _, [] => []
  | m, i :: π => (i, decide (0 < m), gl.getD i default) :: numG gl (m - 1) π
def okPair (ops : Array Oper) (nc : Bool) (x y : Nat × Bool × GOp) : Bool := (reach ops ops.size y.1 x.1 || mayPass2 x.2.1 y.2.1 x.2.2 y.2.2) && (nc || !x.2.2.op.isLoad || !overB y.2.2.dst x.2.2.names)
def allPairs (ops : Array Oper) (nc : Bool) : List (Nat × Bool × GOp) → Bool
  | [] => true
  | x :: l => (l.all fun y => okPair ops nc x y) && allPairs ops nc l
def noChk (gl : List GOp) : Bool := gl.all fun g => g.chk.isEmpty

def nodupB : List Nat → Bool
  | [] => true
  | a :: l => !l.contains a && nodupB l

def drawOk (ops : Array Oper) (m : Nat) (π : List Nat) (gl : List GOp) : Bool :=
  nodupB π && (π.all fun i => decide (i < ops.size)) && ((List.range ops.size).all fun i => π.contains i) &&
  ((List.range ops.size).all fun j => (match ops[j]? with | some o => o.after.all fun e => !Region.binds .any e || decide (e.on < j) | none => true)) &&
  allPairs ops (noChk gl) (numG gl m π) && noChk ((permG π gl).take m)

section
variable {P : Program} {N : Nat}

theorem cOps_get {ops : Array Oper} : ∀ {l : List Oper} {hint gl : List GOp}, cOps P N ops l hint = some gl → l.length = gl.length ∧ ∀ (i : Nat) o, l[i]? = some o → ∃ g hh, gl[i]? = some g ∧ copR P (roOf hh) hh.op o.type o.op = g.op ∧ cGuard ops o.guard = some g.guard ∧ g.dst = o.dst ∧ dstOk N o.dst = true
  | [], hint, gl, h => by
    cases hint <;> simp only [cOps] at h <;> cases h
    simp
  | o :: l, [], gl, h => by simp only [cOps] at h; cases h
  | o :: l, g :: hint, gl, h => by
    simp only [cOps] at h
    split at h
    case h_2 => cases h
    rename_i gd rest hgd hrest
    split at h
    case isFalse => cases h
    rename_i hdst
    cases h
    obtain ⟨h1, h2⟩ := cOps_get hrest
    refine ⟨by simp [h1], fun i o' hi => ?_⟩
    cases i with
    | zero => simp at hi; subst hi; exact ⟨_, g, rfl, rfl, hgd, rfl, hdst⟩
    | succ i => simpa using h2 i o' (by simpa using hi)

/-- Listed operations, closed under what they wait for. -/
def Closed (ops : Array Oper) (D : Array Bool) : Prop := ∀ j o, ops[j]? = some o → D.getD j false = true → ∀ e ∈ o.after, Region.binds .any e = true → D.getD e.on false = true

theorem reach_listed {ops : Array Oper} {D : Array Bool} (hc : Closed ops D) : ∀ {f j i : Nat} {o : Oper}, ops[j]? = some o → (∀ e ∈ o.after, Region.binds .any e = true → D.getD e.on false = true) → reach ops f j i = true → D.getD i false = true
  | 0, j, i, o, _, _, h => by simp [reach] at h
  | f + 1, j, i, o, hj, ha, h => by
    simp only [reach, hj, Array.any_eq_true', Bool.and_eq_true, Bool.or_eq_true, beq_iff_eq] at h
    rcases h with ⟨e, he, hb, h⟩ | ⟨e, he, ⟨hb, _⟩, h⟩
    · rw [← h]; exact ha e he hb
    · have hl := ha e he hb
      cases ho : ops[e.on]? with
      | none =>
        cases f with
        | zero => simp [reach] at h
        | succ f => simp [reach, ho] at h
      | some o' => exact reach_listed hc ho (fun e' he' hb' => hc _ _ ho hl e' he' hb') h

theorem putF_get (F : Frame) (d : Option Nat) (x : AVal) (t : Nat) : (putF F d x).get t = if d = some t then x else F.get t := by
  cases d with
  | none => simp [putF]
  | some d =>
    simp only [putF, Frame.get]
    cases h : Nat.beq d t with
    | true => rw [if_pos (by rw [Nat.eq_of_beq_eq_true h])]
    | false => rw [if_neg (fun e => Nat.ne_of_beq_eq_false h (by simpa using e))]


theorem op_congr {F F' : Frame} {S : Store} {K : AVal → Store → Prop} {so : SOp} (hs : ∀ t ∈ so.slots, F.get t = F'.get t) (h : vcOp P F S K so) : vcOp P F' S K so := by
  by_cases hq : so.quiet = true
  · exact vcOp_congr hq hs h
  · cases so <;> simp only [SOp.quiet, not_true_eq_false] at hq
    case newnil k => exact h
    case mkmap => exact h
    case mrange x => simp only [vcOp, rdK_iff] at h ⊢; rw [← rd_congr hs]; exact h
    case mnext x => simp only [vcOp, rdK_iff] at h ⊢; rw [← rd_congr hs]; exact h
    case mentry x => simp only [vcOp, rdK_iff] at h ⊢; rw [← rd_congr hs]; exact h
    case mupd q m k x =>
      simp only [SOp.slots, List.mem_append] at hs
      simp only [vcOp, rdK_iff] at h ⊢
      rw [← rd_congr (x := m) fun t ht => hs t (.inl (.inl ht)), ← rd_congr (x := k) fun t ht => hs t (.inl (.inr ht)), ← rd_congr (x := x) fun t ht => hs t (.inr ht)]; exact h
    case ment q z m k =>
      simp only [SOp.slots, List.mem_append] at hs
      simp only [vcOp, rdK_iff] at h ⊢
      rw [← rd_congr (x := m) fun t ht => hs t (.inl ht), ← rd_congr (x := k) fun t ht => hs t (.inr ht)]; exact h
    case mset m i x =>
      simp only [SOp.slots, List.mem_append] at hs
      simp only [vcOp, rdK_iff] at h ⊢
      rw [← rd_congr (x := m) fun t ht => hs t (.inl (.inl ht)), ← rd_congr (x := i) fun t ht => hs t (.inl (.inr ht)), ← rd_congr (x := x) fun t ht => hs t (.inr ht)]; exact h
    case alloc k z => exact h
    case box k x => simp only [vcOp, rdK_iff] at h ⊢; rw [← rd_congr hs]; exact h
    case bslice ro len k z ps => exact wFill_congr hs h
    case store n x v =>
      simp only [SOp.slots, List.mem_append] at hs
      simp only [vcOp, rdK_iff] at h ⊢
      rw [← rd_congr (x := x) fun t ht => hs t (.inl ht), ← rd_congr (x := v) fun t ht => hs t (.inr ht)]; exact h
    case mkslice k b z x y =>
      simp only [SOp.slots, List.mem_append] at hs
      simp only [vcOp, rdK_iff] at h ⊢
      rw [← rd_congr (x := x) fun t ht => hs t (.inl ht), ← rd_congr (x := y) fun t ht => hs t (.inr ht)]; exact h
    case append k b x y =>
      simp only [SOp.slots, List.mem_append] at hs
      simp only [vcOp, rdK_iff] at h ⊢
      rw [← rd_congr (x := x) fun t ht => hs t (.inl ht), ← rd_congr (x := y) fun t ht => hs t (.inr ht)]; exact h
    case bad => exact h
    case isnil neg x => simp only [vcOp, rdK_iff] at h ⊢; rw [← rd_congr hs]; exact h
    case peq neg x y =>
      simp only [SOp.slots, List.mem_append] at hs
      simp only [vcOp, rdK_iff] at h ⊢
      rw [← rd_congr (x := x) fun t ht => hs t (.inl ht), ← rd_congr (x := y) fun t ht => hs t (.inr ht)]; exact h
    case clear k z x => simp only [vcOp, rdK_iff] at h ⊢; rw [← rd_congr hs]; exact h
    case s2b x => simp only [vcOp, rdK_iff] at h ⊢; rw [← rd_congr hs]; exact h
    case mark x => simp only [vcOp, rdK_iff] at h ⊢; rw [← rd_congr hs]; exact h
    case alres d k z => exact h
    case mkres d k b z x y =>
      simp only [SOp.slots, List.mem_append] at hs
      simp only [vcOp, rdK_iff] at h ⊢
      rw [← rd_congr (x := x) fun t ht => hs t (.inl ht), ← rd_congr (x := y) fun t ht => hs t (.inr ht)]; exact h

def vcO (P : Program) (q : Bool) (F : Frame) (S : Store) (K : AVal → Store → Prop) (so : SOp) : Prop := match q with | true => vcOpD P F S K so | false => vcOp P F S K so
theorem vcOpD_of {F : Frame} {S : Store} {K : AVal → Store → Prop} {so : SOp} (h : so.isCall = false) : vcOpD P F S K so = vcOp P F S K so := by
  cases so <;> first | rfl | cases h
theorem vcO_of {F : Frame} {S : Store} {K : AVal → Store → Prop} {so : SOp} {q : Bool} (h : so.isCall = false) : vcO P q F S K so = vcOp P F S K so := by
  cases q
  · rfl
  · exact vcOpD_of h
theorem vcOpD_op {F : Frame} {S : Store} {K : AVal → Store → Prop} {so : SOp} (h : vcOpD P F S K so) : vcOp P F S K so := by
  by_cases hc : so.isCall = true
  · have hq : so.quiet = true := by cases so <;> simp only [SOp.isCall] at hc <;> first | rfl | cases hc
    obtain ⟨x, h1, h2⟩ := quiet_det hq h
    exact h2 K h1
  · rwa [vcOpD_of (by simpa using hc)] at h
theorem vcO_op {F : Frame} {S : Store} {K : AVal → Store → Prop} {so : SOp} {q : Bool} (h : vcO P q F S K so) : vcOp P F S K so := by
  cases q
  · exact h
  · exact vcOpD_op h
theorem vcO_congr {F F' : Frame} {S : Store} {K : AVal → Store → Prop} {so : SOp} {q : Bool} (hs : ∀ t ∈ so.slots, F.get t = F'.get t) (h : vcO P q F S K so) : vcO P q F' S K so := by
  cases q
  · exact op_congr hs h
  · by_cases hc : so.isCall = true
    · cases so <;> simp only [SOp.isCall] at hc <;> first | (cases hc; done) | skip
      case call f xs => simp only [vcO, vcOpD, rdsK_iff] at h ⊢; rw [← rds_congr (xs := xs) hs]; exact h
      case callv x xs =>
        simp only [SOp.slots, List.mem_append] at hs
        simp only [vcO, vcOpD, rdK_iff, rdsK_iff] at h ⊢
        rw [← rd_congr (x := x) fun t ht => hs t (.inl ht), ← rds_congr (xs := xs) fun t ht => hs t (.inr ht)]; exact h
    · have hc : so.isCall = false := by simpa using hc
      rw [vcO_of hc] at h ⊢
      exact op_congr hs h
/-- A quiet operation has one value. -/
theorem quietO {F : Frame} {S : Store} {K : AVal → Store → Prop} {so : SOp} {q : Bool} (hq : so.quiet = true) (hc : q = true ∨ so.isCall = false) (h : vcO P q F S K so) :
    ∃ x, K x S ∧ ∀ (F' : Frame) (K' : AVal → Store → Prop), (∀ t ∈ so.slots, F.get t = F'.get t) → K' x S → vcO P q F' S K' so := by
  by_cases hcl : so.isCall = true
  · rcases hc with rfl | hc
    · cases so <;> simp only [SOp.isCall] at hcl <;> first | (cases hcl; done) | skip
      case call f xs =>
        simp only [vcO, vcOpD, rdsK_iff] at h
        obtain ⟨r0, h1, h2⟩ := h
        refine ⟨r0, h2, fun F' K' hs hk => ?_⟩
        simp only [vcO, vcOpD, rdsK_iff]
        rw [← rds_congr (xs := xs) hs]
        exact ⟨r0, h1, hk⟩
      case callv x xs =>
        simp only [vcO, vcOpD, rdK_iff, rdsK_iff] at h
        generalize hX : rd F x = X at h
        cases X <;> first | exact h.elim | skip
        rename_i f first cap
        cases f <;> first | exact h.elim | skip
        cases first <;> first | exact h.elim | skip
        obtain ⟨hcl, r0, h1, h2⟩ := h
        refine ⟨r0, h2, fun F' K' hs hk => ?_⟩
        simp only [SOp.slots, List.mem_append] at hs
        simp only [vcO, vcOpD, rdK_iff, rdsK_iff]
        rw [← rd_congr (x := x) fun t ht => hs t (.inl ht), ← rds_congr (xs := xs) fun t ht => hs t (.inr ht), hX]
        exact ⟨hcl, r0, h1, hk⟩
    · rw [hcl] at hc; cases hc
  · have hcl : so.isCall = false := by simpa using hcl
    rw [vcO_of hcl, ← vcOpD_of hcl] at h
    obtain ⟨x, h1, h2⟩ := quiet_det hq h
    exact ⟨x, h1, fun F' K' hs hk => vcO_congr hs (by rw [vcO_of hcl]; exact h2 K' hk)⟩
theorem free_quiet {so : SOp} (h : so.free = true) : so.quiet = true ∧ so.isCall = false := by
  cases so <;> simp only [SOp.free] at h <;> first | (cases h; done) | exact ⟨rfl, rfl⟩ | exact ⟨h, rfl⟩
theorem free_store {F : Frame} {S S' : Store} {K : AVal → Store → Prop} {so : SOp} (hf : so.free = true) (h : vcOp P F S K so) : vcOp P F S' (fun x _ => K x S) so := by
  cases so <;> simp only [SOp.free] at hf <;> first | (cases hf; done) | exact h | skip
  case bslice ro len k z ps => subst hf; exact h
  case slice k x lo hi =>
    cases k with
    | zero => exact h
    | succ k => cases hf
theorem freeO {F : Frame} {S : Store} {K : AVal → Store → Prop} {so : SOp} {q : Bool} (hf : so.free = true) (h : vcO P q F S K so) :
    ∃ x, K x S ∧ ∀ (F' : Frame) (S' : Store) (K' : AVal → Store → Prop), (∀ t ∈ so.slots, F.get t = F'.get t) → K' x S' → vcO P q F' S' K' so := by
  obtain ⟨hq, hc⟩ := free_quiet hf
  obtain ⟨x, h1, h2⟩ := quietO hq (.inr hc) h
  refine ⟨x, h1, fun F' S' K' hs hk => ?_⟩
  have g := h2 F' (fun z _ => z = x) hs rfl
  rw [vcO_of hc] at g
  have g' := free_store (S' := S') hf g
  rw [← vcOpD_of hc] at g'
  obtain ⟨y, g1, g2⟩ := quiet_det hq g'
  rw [vcO_of hc]
  refine g2 K' ?_
  have e : y = x := g1
  rw [e]; exact hk
theorem wCells_mono {x : AVal} {K K' : List AVal → Prop} (h : wCells x K) (hk : ∀ c, K c → K' c) : wCells x K' := by
  cases x <;> simp only [wCells] at h ⊢ <;> first | exact h.elim | exact hk _ h
theorem wFill_mono {F : Frame} {K K' : List AVal → Prop} {ps : List (Nat × Nat × Rand)} {cs : List AVal} (h : wFill F cs K ps) (hk : ∀ c, K c → K' c) : wFill F cs K' ps := by
  obtain ⟨x, h1, h2⟩ := det_fill _ h
  exact h2 _ (hk _ h1)
theorem wSrc_mono {S : Store} {k : Nat} {x : AVal} {K K' : Nat → List AVal → Prop} (h : wSrc S k x K) (hk : ∀ n c, K n c → K' n c) : wSrc S k x K' := by
  cases x <;> simp only [wSrc] at h ⊢ <;> first | exact h.elim | exact hk _ _ h | exact ⟨h.1, hk _ _ h.2⟩ | skip
  obtain ⟨k', cs, h1, h2, h3⟩ := wRow_iff.1 h
  exact wRow_iff.2 ⟨k', cs, h1, h2, hk _ _ h3⟩
theorem call_quiet {so : SOp} (h : so.isCall = true) : so.quiet = true := by
  cases so <;> simp only [SOp.isCall] at h <;> first | rfl | cases h
theorem op_mono {F : Frame} {S : Store} {K K' : AVal → Store → Prop} {so : SOp} (hc : so.isCall = false) (h : vcOp P F S K so) (hk : ∀ x S', K x S' → K' x S') : vcOp P F S K' so := by
  by_cases hq : so.quiet = true
  · rw [← vcO_of (q := false) hc] at h
    obtain ⟨x, h1, h2⟩ := quietO hq (.inr hc) h
    exact h2 F K' (fun _ _ => rfl) (hk _ _ h1)
  · cases so <;> simp only [SOp.quiet, not_true_eq_false] at hq
    case newnil k => simp only [vcOp, wPush_iff] at h ⊢; exact fun v => hk _ _ (h v)
    case mkmap => simp only [vcOp, wPush_iff] at h ⊢; exact fun v => hk _ _ (h v)
    case mrange x =>
      simp only [vcOp, rdK_iff] at h ⊢
      generalize rd F x = X at *
      cases X <;> first | exact h.elim | skip
      obtain ⟨es, h1, h2⟩ := wMap_iff.1 h
      simp only [wPush_iff] at h2
      refine wMap_iff.2 ⟨es, h1, ?_⟩
      simp only [wPush_iff]
      exact fun v => hk _ _ (h2 v)
    case mnext x =>
      simp only [vcOp, rdK_iff] at h ⊢
      generalize rd F x = X at *
      cases X <;> first | exact h.elim | skip
      rename_i l v off
      cases off <;> first | exact h.elim | skip
      obtain ⟨mv, since, last, seen, h1, lm, es, h2, h3, h4, h5⟩ := wIter_iff.1 h
      refine wIter_iff.2 ⟨mv, since, last, seen, h1, lm, es, h2, h3, fun q => hk _ _ (h4 q), fun i e q1 q2 => ?_⟩
      have := h5 i e q1 q2
      rw [wSet_iff] at this ⊢
      exact ⟨this.1, hk _ _ this.2⟩
    case mentry x =>
      simp only [vcOp, rdK_iff] at h ⊢
      generalize rd F x = X at *
      cases X <;> first | exact h.elim | skip
      rename_i l v off
      cases off <;> first | exact h.elim | skip
      obtain ⟨mv, since, last, seen, h1, lm, es, i, e, h2, h3, h4, h5, h6⟩ := wIter_iff.1 h
      exact wIter_iff.2 ⟨mv, since, last, seen, h1, lm, es, i, e, h2, h3, h4, h5, hk _ _ h6⟩
    case mupd q m k x =>
      simp only [vcOp, rdK_iff] at h ⊢
      generalize rd F m = X at *
      refine ⟨h.1, ?_⟩
      have h := h.2
      cases X <;> first | exact h.elim | skip
      obtain ⟨es, h1, h2, h3⟩ := wMap_iff.1 h
      rw [wSet_iff] at h3
      exact wMap_iff.2 ⟨es, h1, h2, wSet_iff.2 ⟨h3.1, hk _ _ h3.2⟩⟩
    case ment q z m k =>
      simp only [vcOp, rdK_iff] at h ⊢
      generalize rd F m = X at *
      refine ⟨h.1, ?_⟩
      have h := h.2
      cases X <;> first | exact h.elim | skip
      obtain ⟨es, h1, h2, h3⟩ := wMap_iff.1 h
      refine wMap_iff.2 ⟨es, h1, h2, ?_⟩
      split at h3 <;> rw [wSet_iff] at h3 <;> exact wSet_iff.2 ⟨h3.1, hk _ _ h3.2⟩
    case mset m i x =>
      simp only [vcOp, rdK_iff] at h ⊢
      obtain ⟨kk, j, e, h⟩ := wIdx_iff h
      rw [e]
      refine ⟨j, rfl, ?_⟩
      generalize rd F m = X at *
      cases X <;> first | exact h.elim | skip
      obtain ⟨es, h1, h2⟩ := wMap_iff.1 h
      refine wMap_iff.2 ⟨es, h1, ?_⟩
      split at h2
      · rename_i e0 he
        rw [wSet_iff] at h2
        exact wSet_iff.2 ⟨h2.1, hk _ _ h2.2⟩
      · exact h2.elim
    case alloc k z => simp only [vcOp, wPush_iff] at h ⊢; exact fun v => hk _ _ (h v)
    case box k x =>
      simp only [vcOp, wPush_iff, rdK_iff] at h ⊢
      exact wCells_mono h fun c h v => hk _ _ (h v)
    case bslice ro len k z ps =>
      cases ro
      · simp only [vcOp, wPush_iff] at h ⊢
        exact wFill_mono h fun c h v => hk _ _ (h v)
      · exact absurd rfl hq
    case store n x v =>
      simp only [vcOp, rdK_iff] at h ⊢
      generalize rd F x = X at *
      cases X <;> first | exact h.elim | skip
      obtain ⟨k, cs, h1, h2⟩ := wRow_iff.1 h
      refine wRow_iff.2 ⟨k, cs, h1, wCells_mono h2 fun c h => ⟨h.1, h.2.1, ?_⟩⟩
      have h3 := h.2.2
      rw [setRowK_iff, wSet_iff] at h3 ⊢
      exact ⟨h3.1, hk _ _ h3.2⟩
    case mkslice k b z x y =>
      simp only [vcOp, wPush_iff, rdK_iff] at h ⊢
      obtain ⟨kk, j, e, h1, h2, h3⟩ := wIdx_iff h
      rw [e] at h1 ⊢
      exact ⟨j, rfl, h1, h2, fun v => hk _ _ (h3 v)⟩
    case append k b s x =>
      simp only [vcOp, rdK_iff] at h ⊢
      refine wSrc_mono h fun n ys h => ?_
      generalize rd F s = X at *
      cases X <;> first | exact h.elim | skip
      · simp only [wPush_iff] at h ⊢
        exact ⟨h.1, fun v => hk _ _ (h.2 v)⟩
      · simp only at h ⊢
        obtain ⟨k', cs, h1, h2, h3, h4, h5⟩ := wRow_iff.1 h
        refine wRow_iff.2 ⟨k', cs, h1, h2, h3, h4, fun v => ?_⟩
        have := h5 v
        rw [wSet_iff] at this ⊢
        exact ⟨this.1, hk _ _ this.2⟩
    case bad => exact h
    case mark x =>
      simp only [vcOp, rdK_iff] at h ⊢
      generalize rd F x = X at *
      cases X <;> first | exact h.elim | skip
      obtain ⟨k', cs, h1, h0, h3⟩ := wRow_iff.1 h.2
      exact ⟨h.1, wRow_iff.2 ⟨k', cs, h1, h0, hk _ _ h3⟩⟩
    case s2b x =>
      simp only [vcOp, wPush_iff, rdK_iff] at h ⊢
      generalize rd F x = X at *
      cases X <;> first | exact h.elim | exact fun v => hk _ _ (h v)
    case isnil neg x =>
      simp only [vcOp, rdK_iff] at h ⊢
      generalize rd F x = X at *
      cases X <;> first | exact h.elim | exact hk _ _ h | exact fun b hb => hk _ _ (h b hb)
    case peq neg x y =>
      simp only [vcOp, rdK_iff] at h ⊢
      generalize rd F x = X at *
      generalize rd F y = Y at *
      cases X <;> cases Y <;> first | exact h.elim | exact hk _ _ h | skip
      obtain ⟨k, cs, g1, g2, h⟩ := wRow_iff.1 h
      obtain ⟨k', cs', g3, g4, h⟩ := wRow_iff.1 h
      exact wRow_iff.2 ⟨k, cs, g1, g2, wRow_iff.2 ⟨k', cs', g3, g4, hk _ _ h⟩⟩
    case clear k z x =>
      simp only [vcOp, rdK_iff] at h ⊢
      generalize rd F x = X at *
      cases X <;> first | exact h.elim | exact hk _ _ h | skip
      simp only at h ⊢
      obtain ⟨k', cs, h1, h2, h3, h4⟩ := wRow_iff.1 h
      rw [wSet_iff] at h4
      exact wRow_iff.2 ⟨k', cs, h1, h2, h3, wSet_iff.2 ⟨h4.1, hk _ _ h4.2⟩⟩
    case mkres d k b z x y =>
      simp only [vcOp, rdK_iff] at h ⊢
      obtain ⟨kk, j, e, h1, h2, h3, h4, h5, h6⟩ := wIdx_iff h
      rw [e] at h1 ⊢
      exact ⟨j, rfl, h1, h2, h3, h4, h5, fun v => hk _ _ (h6 v)⟩
    case alres d k z =>
      simp only [vcOp] at h ⊢
      exact ⟨h.1, h.2.1, h.2.2.1, fun v => hk _ _ (h.2.2.2 v)⟩
theorem vcO_mono {F : Frame} {S : Store} {K K' : AVal → Store → Prop} {so : SOp} {q : Bool} (h : vcO P q F S K so) (hk : ∀ x S', K x S' → K' x S') : vcO P q F S K' so := by
  by_cases hc : so.isCall = true
  · cases q
    · cases so <;> simp only [SOp.isCall] at hc <;> first | (cases hc; done) | skip
      case call f xs => simp only [vcO, vcOp, rdsK_iff] at h ⊢; exact ACallsMono h hk
      case callv x xs =>
        simp only [vcO, vcOp, rdK_iff, rdsK_iff] at h ⊢
        generalize rd F x = X at *
        cases X <;> first | exact h.elim | skip
        rename_i f first cap
        cases f <;> first | exact h.elim | skip
        · cases first <;> first | exact h.elim | skip
          exact ⟨h.1, ACallsMono h.2 hk⟩
        · cases first <;> first | exact h.elim | skip
          cases cap <;> first | exact h.elim | skip
          exact ⟨h.1, YCalls.mono h.2 hk⟩
    · obtain ⟨x, h1, h2⟩ := quietO (call_quiet hc) (.inl rfl) h
      exact h2 F K' (fun _ _ => rfl) (hk _ _ h1)
  · have hc : so.isCall = false := by simpa using hc
    rw [vcO_of hc] at h ⊢
    exact op_mono hc h hk

/-! ### One operation, with its guard -/
def vcG (P : Program) (q : Bool) (o : GOp) (F : Frame) (S : Store) (K : AVal → Store → Prop) : Prop :=
  match o.guard with
  | none => vcO P q F S (fun x S' => splitG o.isG x fun x => K x S') o.op
  | some (g, want) => match F.get g, want with
    | .tt, true => vcO P q F S (fun x S' => splitG o.isG x fun x => K x S') o.op
    | .tt, false => K (.tup []) S
    | .ff, false => vcO P q F S (fun x S' => splitG o.isG x fun x => K x S') o.op
    | .ff, true => K (.tup []) S
    | .tup _, _ => K (.tup []) S
    | _, _ => False
/-- A slot holds what is loaded now. -/
def chk1 (F : Frame) (S : Store) (k : Nat × Nat × Bool × Rand) : Prop := wLoad S k.2.1 k.2.2.1 (rd F k.2.2.2) fun r => r = F.get k.1
def chks (F : Frame) (S : Store) (l : List (Nat × Nat × Bool × Rand)) : Prop := ∀ k ∈ l, chk1 F S k
theorem chk1_congr {F F' : Frame} {S : Store} {k : Nat × Nat × Bool × Rand} (hs : ∀ t ∈ k.1 :: k.2.2.2.slots, F.get t = F'.get t) (h : chk1 F S k) : chk1 F' S k := by
  unfold chk1 at h ⊢
  rw [← rd_congr (F := F) (F' := F') fun t ht => hs t (by simp [ht]), ← hs k.1 (by simp)]
  exact h
theorem chks_congr {F F' : Frame} {S : Store} {l : List (Nat × Nat × Bool × Rand)} (hs : ∀ k ∈ l, ∀ t ∈ k.1 :: k.2.2.2.slots, F.get t = F'.get t) (h : chks F S l) : chks F' S l :=
  fun k hk => chk1_congr (hs k hk) (h k hk)
theorem again_chk {F : Frame} {S : Store} {K : AVal → Store → Prop} {k : Nat × Nat × Bool × Rand} (h : vcOp P F S K (.again k.1 k.2.1 k.2.2.1 k.2.2.2)) : chk1 F S k ∧ K .junk S := by
  simp only [vcOp, rdK_iff] at h
  obtain ⟨z, h1, h2⟩ := det_load _ h
  exact ⟨h2 _ h1.1, h1.2⟩
theorem chks_ops {K : Frame → Store → Prop} {rest : List GOp} {F : Frame} {S : Store} : ∀ (l : List (Nat × Nat × Bool × Rand)), vcOps P K (l.map againG ++ rest) F S → chks F S l ∧ vcOps P K rest F S
  | [], h => ⟨fun k hk => (by cases hk), h⟩
  | k :: l, h => by
    simp only [List.map_cons, List.cons_append, vcOps, againG, splitG, putF] at h
    obtain ⟨h1, h2⟩ := again_chk h
    obtain ⟨h3, h4⟩ := chks_ops l h2
    refine ⟨fun k' hk => ?_, h4⟩
    rcases List.mem_cons.1 hk with rfl | hk
    · exact h1
    · exact h3 k' hk
def vcR (P : Program) (K : Frame → Store → Prop) : List (Nat × Bool × GOp) → Frame → Store → Prop
  | [], F, S => K F S
  | x :: l, F, S => vcG P x.2.1 x.2.2 F S fun y S' => chks (putF F x.2.2.dst y) S' x.2.2.chk ∧ vcR P K l (putF F x.2.2.dst y) S'
theorem splitG_mono {b : Bool} {x : AVal} {K K' : AVal → Prop} (h : splitG b x K) (hk : ∀ x, K x → K' x) : splitG b x K' := by
  cases b
  · exact hk _ h
  · cases x <;> simp only [splitG] at h ⊢ <;> first | exact h.elim | exact hk _ h | exact ⟨fun e => hk _ (h.1 e), fun e => hk _ (h.2 e)⟩
theorem vcG_mono {q : Bool} {o : GOp} {F : Frame} {S : Store} {K K' : AVal → Store → Prop} (h : vcG P q o F S K) (hk : ∀ x S', K x S' → K' x S') : vcG P q o F S K' := by
  unfold vcG at h ⊢
  have hop : ∀ {so : SOp}, vcO P q F S (fun x S' => splitG o.isG x fun x => K x S') so → vcO P q F S (fun x S' => splitG o.isG x fun x => K' x S') so := fun h => vcO_mono h fun x S' h => splitG_mono h fun y hy => hk _ _ hy
  split
  · rename_i hg; rw [hg] at h; exact hop h
  · rename_i g want hg
    rw [hg] at h
    simp only at h
    generalize F.get g = c at *
    cases c <;> cases want <;> simp only at h ⊢ <;> first | exact h.elim | exact hk _ _ h | exact hop h
theorem op_step {rr : Option Nat} {ops : Array Oper} {k : Nat} {o : Oper} {g : GOp} {q ro : Bool} {hint : SOp} {Q : Exit → Act → World → Prop} {K : AVal → Store → Prop} {E : Env} {fz : Nat → Prop} {S : Store} {w : World} {F : Frame} {a : Act} (ho : ops[k]? = some o)
    (hcop : copR P ro hint o.type o.op = g.op) (hgd : cGuard ops o.guard = some g.guard) (st : St E fz S w) (hF : RelF E fz w F a.tmps) (h : vcG P q g F S K) {next : Act → World → Prop}
    (hn : ∀ (x : AVal) (S' : Store) (E' : Env) (fz' : Nat → Prop) (w' : World) (v : Value), K x S' → Ext E fz S w E' fz' S' w' → St E' fz' S' w' → Rel E' fz' w' x v → next (a.put o.dst v) w') : wpOpIn (wf rr) 0 P ops Q k next a w := by
  have run : vcO P q F S (fun x S' => splitG g.isG x fun x => K x S') g.op → o.wpIn (wf rr) 0 P a w next Q := fun hop => by
    refine wp_of_runs (copR_nodefer (by rw [hcop]; exact vcO_op hop)) (copR_sound st hF hcop (vcO_op hop)) ?_
    rintro v w' ⟨x, S', E', fz', hk, hx, hs, hr⟩
    obtain ⟨y, hy, hr'⟩ := splitG_rel hk hr
    exact hn y S' E' fz' w' v hy hx hs hr'
  have skip : K (.tup []) S → next (a.put o.dst undef) w := fun hk =>
    hn _ S E fz w undef hk .refl st (by simp only [Rel]; exact ⟨[], rfl, by simp [RelL]⟩)
  unfold vcG at h
  simp only [wpOpIn, ho]
  cases hgo : o.guard with
  | none =>
    rw [hgo] at hgd
    simp only [cGuard] at hgd
    have hgd' := Option.some.inj hgd
    rw [← hgd'] at h
    rw [if_pos (by simp [Region.wanted, hgo])]
    exact run h
  | some jw =>
    obtain ⟨j, want⟩ := jw
    rw [hgo] at hgd
    simp only [cGuard] at hgd
    split at hgd
    case h_2 => cases hgd
    rename_i d hd
    have hgd' := Option.some.inj hgd
    rw [← hgd'] at h
    obtain ⟨w1, w2, w3⟩ := wanted_rel hgo hd hF
    simp only at h
    cases hg : F.get d <;> cases want <;> rw [hg] at h <;> simp only at h <;> first | exact h.elim | skip
    · rw [w1 hg, if_neg (by simp)]; exact ⟨fun _ _ => trivial, skip h⟩
    · rw [w1 hg, if_pos rfl]; exact run h
    · rw [w2 hg, if_pos (by simp)]; exact run h
    · rw [w2 hg, if_neg (by simp)]; exact ⟨fun _ _ => trivial, skip h⟩
    all_goals
      rw [w3 _ hg, if_neg (by simp)]
      exact ⟨fun _ _ => trivial, skip h⟩

theorem getD_true {D : Array Bool} {j : Nat} (h : j < D.size) : D.getD j true = D.getD j false := by
  simp [Array.getD_eq_getD_getElem?, Array.getElem?_eq_getElem h]

theorem getD_set {D : Array Bool} {i j : Nat} (h : i < D.size) : (D.setIfInBounds i true).getD j false = if j = i then true else D.getD j false := by
  simp only [Array.getD_eq_getD_getElem?, Array.getElem?_setIfInBounds]
  by_cases e : i = j
  · subst e; simp [h]
  · rw [if_neg e, if_neg (fun h => e h.symm)]

theorem ready_wait {ops : Array Oper} {D : Array Bool} (hc : Closed ops D) {i j : Nat} (hi : i ∈ Region.ready .any ops D) (h : reach ops ops.size i j = true) : D.getD j false = true := by
  obtain ⟨_, o, ho, ha⟩ := mem_ready.1 hi
  exact reach_listed hc ho ha h
theorem listed_wait {ops : Array Oper} {D : Array Bool} (hc : Closed ops D) {i j : Nat} (hi : D.getD i false = true) (hsz : D.size = ops.size) (h : reach ops ops.size i j = true) : D.getD j false = true := by
  have hlt : i < ops.size := by
    rw [← hsz]
    rcases Nat.lt_or_ge i D.size with h | h
    · exact h
    · rw [Array.getD_eq_getD_getElem?, Array.getElem?_eq_none h] at hi; cases hi
  have ho := Array.getElem?_eq_getElem hlt
  exact reach_listed hc ho (fun e he hb => hc i _ ho hi e he hb) h

theorem not_stuck {ops : Array Oper} {D : Array Bool} (hedge : ∀ (j : Nat) o, ops[j]? = some o → ∀ e ∈ o.after, Region.binds .any e = true → e.on < j) (hsz : D.size = ops.size) (h : Region.ready .any ops D = []) : ∀ j, j < ops.size → D.getD j false = true := by
  intro j
  induction j using Nat.strongRecOn with
  | _ j ih =>
    intro hj
    cases hd : D.getD j false with
    | true => rfl
    | false =>
      have hmem : j ∈ Region.ready .any ops D := mem_ready.2 ⟨by rw [getD_true (by omega)]; exact hd, ops[j], Array.getElem?_eq_getElem hj, fun e he hb => by
        have := hedge j _ (Array.getElem?_eq_getElem hj) e he hb
        exact ih e.on this (by omega)⟩
      rw [h] at hmem
      cases hmem

theorem closed_set {ops : Array Oper} {D : Array Bool} (hc : Closed ops D) (hsz : D.size = ops.size) {i : Nat} (hi : i ∈ Region.ready .any ops D) : Closed ops (D.setIfInBounds i true) := by
  obtain ⟨h0, o, ho, ha⟩ := mem_ready.1 hi
  have hlt : i < D.size := by rw [hsz]; exact (Array.getElem?_eq_some_iff.1 ho).1
  intro j o' hj hd e he hb
  rw [getD_set hlt] at hd ⊢
  split
  · rfl
  · split at hd
    · rename_i e1; subst e1
      rw [ho] at hj; cases hj
      exact ha e he hb
    · exact hc j o' hj hd e he hb

theorem gWrites_mem : ∀ {gl : List GOp} {g : GOp} {t : Nat}, g ∈ gl → g.dst = some t → t ∈ gWrites gl
  | [], g, t, h, _ => by cases h
  | g' :: gl, g, t, h, hd => by
    simp only [gWrites, List.mem_append]
    rcases List.mem_cons.1 h with rfl | h
    · exact .inl (by simp [hd])
    · exact .inr (gWrites_mem h hd)

/-- What is read of a frame by an operation. -/
def GOp.reads (o : GOp) : List Nat := o.op.slots ++ (match o.guard with | some (s, _) => [s] | none => [])
theorem vcG_congr {q : Bool} {o : GOp} {F F' : Frame} {S : Store} {K : AVal → Store → Prop} (hs : ∀ t ∈ o.reads, F.get t = F'.get t) (h : vcG P q o F S K) : vcG P q o F' S K := by
  have hsl : ∀ t ∈ o.op.slots, F.get t = F'.get t := fun t ht => hs t (by simp [GOp.reads, ht])
  unfold vcG at h ⊢
  split
  · rename_i hg; rw [hg] at h; exact vcO_congr hsl h
  · rename_i g want hg
    rw [hg] at h
    simp only at h
    rw [← hs g (by simp [GOp.reads, hg])]
    generalize F.get g = c at *
    cases c <;> cases want <;> simp only at h ⊢ <;> first | exact h.elim | exact h | exact vcO_congr hsl h
theorem splitG_det {b : Bool} {y : AVal} {Q : AVal → Prop} (h : splitG b y Q) : ∃ x, Q x ∧ ∀ Q' : AVal → Prop, Q' x → splitG b y Q' := by
  cases b
  · exact ⟨y, h, fun _ h => h⟩
  · cases y <;> simp only [splitG] at h ⊢ <;> first | exact h.elim | exact ⟨_, h, fun _ h => h⟩ | skip
    rename_i b
    cases b
    · exact ⟨.ff, h.2 rfl, fun _ h => ⟨fun e => (by cases e), fun _ => h⟩⟩
    · exact ⟨.tt, h.1 rfl, fun _ h => ⟨fun _ => h, fun e => (by cases e)⟩⟩
theorem vcG_quiet {q : Bool} {o : GOp} {F : Frame} {S : Store} {K : AVal → Store → Prop} (hq : o.op.quiet = true) (hc : q = true ∨ o.op.isCall = false) (h : vcG P q o F S K) :
    ∃ x, K x S ∧ ∀ (F' : Frame) (K' : AVal → Store → Prop), (∀ t ∈ o.reads, F.get t = F'.get t) → K' x S → vcG P q o F' S K' := by
  have hop : vcO P q F S (fun x S' => splitG o.isG x fun x => K x S') o.op → ∃ x, K x S ∧ ∀ (F' : Frame) (K' : AVal → Store → Prop), (∀ t ∈ o.op.slots, F.get t = F'.get t) → K' x S → vcO P q F' S (fun x S' => splitG o.isG x fun x => K' x S') o.op := fun h => by
    obtain ⟨y, h1, h2⟩ := quietO hq hc h
    obtain ⟨x, h3, h4⟩ := splitG_det h1
    exact ⟨x, h3, fun F' K' hs hk => h2 F' _ hs (h4 _ hk)⟩
  unfold vcG at h
  split at h
  · rename_i hg
    obtain ⟨x, h1, h2⟩ := hop h
    refine ⟨x, h1, fun F' K' hs hk => ?_⟩
    unfold vcG; rw [hg]
    exact h2 F' K' (fun t ht => hs t (by simp [GOp.reads, ht])) hk
  · rename_i g want hg
    have other : ∀ {F' : Frame}, (∀ t ∈ o.reads, F.get t = F'.get t) → F'.get g = F.get g := fun hs => (hs g (by simp [GOp.reads, hg])).symm
    have sl : ∀ {F' : Frame}, (∀ t ∈ o.reads, F.get t = F'.get t) → ∀ t ∈ o.op.slots, F.get t = F'.get t := fun hs t ht => hs t (by simp [GOp.reads, ht])
    cases hcv : F.get g <;> cases want <;> rw [hcv] at h <;> simp only at h <;> first | exact h.elim | skip
    all_goals first
      | (obtain ⟨x, h1, h2⟩ := hop h
         refine ⟨x, h1, fun F' K' hs hk => ?_⟩
         unfold vcG; rw [hg]; simp only; rw [other hs, hcv]
         exact h2 F' K' (sl hs) hk)
      | (refine ⟨_, h, fun F' K' hs hk => ?_⟩
         unfold vcG; rw [hg]; simp only; rw [other hs, hcv]
         exact hk)
theorem vcG_free {q : Bool} {o : GOp} {F : Frame} {S : Store} {K : AVal → Store → Prop} (hf : o.op.free = true) (h : vcG P q o F S K) :
    ∃ x, K x S ∧ ∀ (F' : Frame) (S' : Store) (K' : AVal → Store → Prop), (∀ t ∈ o.reads, F.get t = F'.get t) → K' x S' → vcG P q o F' S' K' := by
  have hop : vcO P q F S (fun x S' => splitG o.isG x fun x => K x S') o.op → ∃ x, K x S ∧ ∀ (F' : Frame) (S' : Store) (K' : AVal → Store → Prop), (∀ t ∈ o.op.slots, F.get t = F'.get t) → K' x S' → vcO P q F' S' (fun x S' => splitG o.isG x fun x => K' x S') o.op := fun h => by
    obtain ⟨y, h1, h2⟩ := freeO hf h
    obtain ⟨x, h3, h4⟩ := splitG_det h1
    exact ⟨x, h3, fun F' S' K' hs hk => h2 F' S' _ hs (h4 _ hk)⟩
  unfold vcG at h
  split at h
  · rename_i hg
    obtain ⟨x, h1, h2⟩ := hop h
    refine ⟨x, h1, fun F' S' K' hs hk => ?_⟩
    unfold vcG; rw [hg]
    exact h2 F' S' K' (fun t ht => hs t (by simp [GOp.reads, ht])) hk
  · rename_i g want hg
    have other : ∀ {F' : Frame}, (∀ t ∈ o.reads, F.get t = F'.get t) → F'.get g = F.get g := fun hs => (hs g (by simp [GOp.reads, hg])).symm
    have sl : ∀ {F' : Frame}, (∀ t ∈ o.reads, F.get t = F'.get t) → ∀ t ∈ o.op.slots, F.get t = F'.get t := fun hs t ht => hs t (by simp [GOp.reads, ht])
    cases hcv : F.get g <;> cases want <;> rw [hcv] at h <;> simp only at h <;> first | exact h.elim | skip
    all_goals first
      | (obtain ⟨x, h1, h2⟩ := hop h
         refine ⟨x, h1, fun F' S' K' hs hk => ?_⟩
         unfold vcG; rw [hg]; simp only; rw [other hs, hcv]
         exact h2 F' S' K' (sl hs) hk)
      | (refine ⟨_, h, fun F' S' K' hs hk => ?_⟩
         unfold vcG; rw [hg]; simp only; rw [other hs, hcv]
         exact hk)

/-! ### Beside a new object -/
theorem St.front {E : Env} {fz : Nat → Prop} {S : Store} {w : World} {o : Ob} (st : St E fz (S ++ [o]) w) : St E fz S w := by
  have up : ∀ {l : Nat} {x : Ob}, S[l]? = some x → (S ++ [o])[l]? = some x := fun {l x} h => by
    rw [List.getElem?_append_left (List.getElem?_eq_some_iff.1 h).1]; exact h
  exact ⟨fun l x h => st.ok l x (up h), fun l l' b ⟨x, h1, h2⟩ ⟨y, g1, g2⟩ => st.sep l l' b ⟨x, up h1, h2⟩ ⟨y, up g1, g2⟩, st.fzlt, st.fresh⟩
theorem ACalls_push {P : Program} {f : FuncId} {args : List AVal} {S : Store} {r0 : AVal} {o : Ob} (h : ACalls P f args S (fun r S' => r = r0 ∧ S' = S)) : ACalls P f args (S ++ [o]) (fun r S' => r = r0 ∧ S' = S ++ [o]) := by
  refine ⟨fun E fz w vals st hrel => (h.out E fz w vals st.front hrel).mono ?_⟩
  rintro e w' ⟨r, S', v, E', fz', h1, hx, st', hr, rfl, rfl⟩
  have lt : ∀ {l : Nat} {x : Ob}, S'[l]? = some x → l < S'.length := fun h => (List.getElem?_eq_some_iff.1 h).1
  have up : ∀ {l : Nat} {x : Ob}, S'[l]? = some x → (S' ++ [o])[l]? = some x := fun {l x} h => by
    rw [List.getElem?_append_left (lt h)]; exact h
  have last : (S' ++ [o])[S'.length]? = some o := by simp
  have split : ∀ {l : Nat} {x : Ob}, (S' ++ [o])[l]? = some x → S'[l]? = some x ∨ (l = S'.length ∧ x = o) := fun {l x} h => by
    rcases Nat.lt_or_ge l S'.length with c | c
    · rw [List.getElem?_append_left c] at h; exact .inl h
    · have := (List.getElem?_eq_some_iff.1 h).1
      simp at this
      have e : l = S'.length := by omega
      subst e
      rw [last] at h; cases h
      exact .inr ⟨rfl, rfl⟩
  have ownUp : ∀ {b : Nat}, Own E S' b → Own E (S' ++ [o]) b := fun ⟨l, x, q1, q2⟩ => ⟨l, x, up q1, q2⟩
  have oat : ∀ {b : Nat}, obBlock E o = some b → OwnAt E (S' ++ [o]) S'.length b := fun hb => ⟨o, last, hb⟩
  have okO := st.ok _ _ last
  have blk := okO.block hx.env
  have notin : ∀ {b : Nat}, obBlock E o = some b → ¬ Own E S' b := fun hb ⟨l, x, q1, q2⟩ => by
    have := st.sep l S'.length _ ⟨x, up q1, q2⟩ (oat hb)
    have := lt q1
    omega
  have safe : ∀ b, obBlock E o = some b → w'.heap[b]? = w.heap[b]? ∧ ¬ fz' b := fun b hb => by
    obtain ⟨l1, l2⟩ := st.own_lt (oat hb)
    refine ⟨hx.keep b l1 (notin hb), fun hf => ?_⟩
    rcases hx.fznew b hf with h | h | h
    · exact l2 h
    · exact notin hb h
    · omega
  have e1 : ∀ b, fz' b → fz b ∨ Own E (S' ++ [o]) b ∨ w.heap.size ≤ b := fun b hb => by
    rcases hx.fznew b hb with h | h | h
    · exact .inl h
    · exact .inr (.inl (ownUp h))
    · exact .inr (.inr h)
  have e2 : ∀ b, Own E' (S' ++ [o]) b → Own E (S' ++ [o]) b ∨ w.heap.size ≤ b := fun b ⟨l, x, q1, q2⟩ => by
    rcases split q1 with h | ⟨rfl, rfl⟩
    · rcases hx.own b ⟨l, x, h, q2⟩ with h | h
      · exact .inl (ownUp h)
      · exact .inr h
    · rw [blk] at q2; exact .inl ⟨_, oat q2⟩
  have e3 : ∀ (l : Nat) x, (S' ++ [o])[l]? = some x → ObOk E' fz' w' x := fun l x hl => by
    rcases split hl with h | ⟨rfl, rfl⟩
    · exact st'.ok l x h
    · exact okO.mono hx.env hx.frz (st.front.fz_keep hx) safe
  have e4 : ∀ l l' b, OwnAt E' (S' ++ [o]) l b → OwnAt E' (S' ++ [o]) l' b → l = l' := fun l l' b ⟨x, q1, q2⟩ ⟨y, g1, g2⟩ => by
    have cross : ∀ {l b : Nat} {x : Ob}, S'[l]? = some x → obBlock E' x = some b → obBlock E' o = some b → False := fun {l b x} h1 h2 h3 => by
      rw [blk] at h3
      rcases hx.own b ⟨l, x, h1, h2⟩ with h | h
      · exact notin h3 h
      · have := (st.own_lt (oat h3)).1; omega
    rcases split q1 with h | ⟨k1, k2⟩ <;> rcases split g1 with h' | ⟨k3, k4⟩
    · exact st'.sep l l' b ⟨x, h, q2⟩ ⟨y, h', g2⟩
    · rw [k4] at g2; exact (cross h q2 g2).elim
    · rw [k2] at q2; exact (cross h' g2 q2).elim
    · rw [k1, k3]
  exact ⟨_, _, v, E', fz', h1, ⟨hx.env, hx.frz, e1, fun b hb hn => hx.keep b hb fun ho => hn (ownUp ho), e2, hx.size, hx.os, hx.output, hx.tape⟩, ⟨e3, e4, st'.fzlt, st'.fresh⟩, hr, rfl, rfl⟩

theorem row_push {S : Store} {l v : Nat} {o : Ob} {K : Nat → List AVal → Prop} (h : wRow S l v K) : wRow (S ++ [o]) l v K := by
  obtain ⟨k, cs, h1, h2⟩ := wRow_iff.1 h
  refine wRow_iff.2 ⟨k, cs, ?_, h2⟩
  rw [List.getElem?_append_left (List.getElem?_eq_some_iff.1 h1).1]; exact h1
theorem load_push {S : Store} {n : Nat} {ag : Bool} {x : AVal} {o : Ob} {K : AVal → Prop} (h : wLoad S n ag x K) : wLoad (S ++ [o]) n ag x K := by
  cases x <;> simp only [wLoad] at h ⊢ <;> first | exact h.elim | exact h | exact row_push h
theorem load_set {S : Store} {n i : Nat} {ag : Bool} {x : AVal} {o : Ob} {K : AVal → Prop} (hd : S[i]? = some .dead) (h : wLoad S n ag x K) : wLoad (S.set i o) n ag x K := by
  cases x <;> simp only [wLoad] at h ⊢ <;> first | exact h.elim | exact h | skip
  obtain ⟨k, cs, h1, h2⟩ := wRow_iff.1 h
  refine wRow_iff.2 ⟨k, cs, ?_, h2⟩
  rw [List.getElem?_set_ne (fun e => by subst e; rw [hd] at h1; cases h1)]; exact h1
theorem bytes_push {S : Store} {x : AVal} {o : Ob} {K : List UInt8 → Prop} (h : wBytes S x K) : wBytes (S ++ [o]) x K := by
  cases x <;> simp only [wBytes] at h ⊢ <;> first | exact h.elim | exact h | exact row_push h
/-- A quiet operation beside a new object. -/
theorem quiet_push {F : Frame} {S : Store} {o : Ob} {x : AVal} {so : SOp} (hq : so.quiet = true) (h : vcOpD P F S (fun y T => y = x ∧ T = S) so) : vcOpD P F (S ++ [o]) (fun y T => y = x ∧ T = S ++ [o]) so := by
  by_cases hf : so.free = true
  · obtain ⟨z, h1, h2⟩ := freeO hf (show vcO P true F S (fun y T => y = x ∧ T = S) so from h)
    exact h2 F (S ++ [o]) (fun y T => y = x ∧ T = S ++ [o]) (fun _ _ => rfl) ⟨h1.1, rfl⟩
  cases so <;> simp only [SOp.quiet] at hq <;> first | (cases hq; done) | (exact (hf rfl).elim) | (exact (hf hq).elim) | skip
  case call f xs =>
    simp only [vcOpD, rdsK_iff] at h ⊢
    obtain ⟨r0, h1, h2, h3⟩ := h
    exact ⟨r0, ACalls_push h1, h2, by trivial⟩
  case callv y xs =>
    simp only [vcOpD, rdK_iff, rdsK_iff] at h ⊢
    generalize rd F y = X at *
    cases X <;> first | exact h.elim | skip
    rename_i f first cap
    cases f <;> first | exact h.elim | skip
    cases first <;> first | exact h.elim | skip
    obtain ⟨hc, r0, h1, h2, h3⟩ := h
    exact ⟨hc, r0, ACalls_push h1, h2, by trivial⟩
  case b2s y =>
    simp only [vcOpD, vcOp, rdK_iff] at h ⊢
    obtain ⟨z, h1, h2⟩ := det_bytes _ (bytes_push (o := o) h)
    exact h2 _ ⟨h1.1, by trivial⟩
  case load n ag y =>
    simp only [vcOpD, vcOp, rdK_iff] at h ⊢
    obtain ⟨z, h1, h2⟩ := det_load _ (load_push (o := o) h)
    exact h2 _ ⟨h1.1, by trivial⟩
  case mlook q ok z m k =>
    simp only [vcOpD, vcOp, rdK_iff] at h ⊢
    generalize rd F m = X at *
    refine ⟨h.1, ?_⟩
    have h := h.2
    cases X <;> first | exact h.elim | skip
    · obtain ⟨es, hl, h1, h2, _⟩ := wMap_iff.1 h
      refine wMap_iff.2 ⟨es, ?_, h1, h2, by trivial⟩
      rw [List.getElem?_append_left (List.getElem?_eq_some_iff.1 hl).1]; exact hl
    · exact ⟨h.1, by trivial⟩
  case again t n ag y =>
    simp only [vcOpD, vcOp, rdK_iff] at h ⊢
    obtain ⟨z, h1, h2⟩ := det_load _ (load_push (o := o) h)
    exact h2 _ ⟨h1.1, h1.2.1, by trivial⟩
  case slice3 k y a b =>
    simp only [vcOpD, vcOp, rdK_iff] at h ⊢
    obtain ⟨n, h1, h2⟩ := det_idx _ h
    generalize rd F y = X at *
    cases X <;> simp only at h1 h2 ⊢ <;> first | exact h1.2.elim | skip
    · exact h2 _ ⟨h1.1, h1.2.1, h1.2.2.1, by trivial⟩
    · refine h2 _ ⟨h1.1, h1.2.1, row_push ?_⟩
      obtain ⟨k', cs, hl, e, hk⟩ := wRow_iff.1 h1.2.2
      exact wRow_iff.2 ⟨k', cs, hl, e, hk.1, by trivial⟩
  case slice k y lo hi =>
    cases k with
    | zero => exact (hf rfl).elim
    | succ k =>
      simp only [vcOpD, vcOp, rdK_iff] at h ⊢
      generalize rd F y = X at *
      cases X <;> first | exact h.elim | skip
      all_goals
        simp only at h ⊢
        obtain ⟨hh, h1, h2⟩ := det_hi _ h
        obtain ⟨j, h3, h4⟩ := det_lo _ h1
      · exact h2 _ (h4 _ ⟨h3.1, h3.2.1, h3.2.2.1, by trivial⟩)
      · refine h2 _ (h4 _ ⟨h3.1, h3.2.1, row_push ?_⟩)
        obtain ⟨k', cs, hl, e, hk⟩ := wRow_iff.1 h3.2.2
        exact wRow_iff.2 ⟨k', cs, hl, e, hk.1, by trivial⟩
      · exact h2 _ (h4 _ ⟨h3.1, h3.2.1, h3.2.2.1, h3.2.2.2.1, by trivial⟩)
  case iaddr k ar y i =>
    simp only [vcOpD, vcOp, rdK_iff] at h ⊢
    generalize rd F y = X at *
    obtain ⟨j, h1, h2⟩ := det_idx _ h
    cases X <;> cases ar <;> simp only at h1 h2 ⊢ <;> first | exact h1.elim | skip
    · exact h2 _ ⟨h1.1, h1.2.1, by trivial⟩
    · exact h2 _ ⟨h1.1, h1.2.1, by trivial⟩
    · obtain ⟨g1, g2⟩ := h1
      obtain ⟨k', cs, hl, e, hk⟩ := wRow_iff.1 g2
      exact h2 _ ⟨g1, row_push (wRow_iff.2 ⟨k', cs, hl, e, hk.1, by trivial⟩)⟩
    · obtain ⟨g1, xs, g2, g3⟩ := h1
      exact h2 _ ⟨g1, xs, g2, g3.1, by trivial⟩
theorem vcG_push {q : Bool} {g : GOp} {F : Frame} {S : Store} {o : Ob} {x : AVal} (hq : g.op.quiet = true) (hc : q = true ∨ g.op.isCall = false) (h : vcG P q g F S (fun y T => y = x ∧ T = S)) : vcG P q g F (S ++ [o]) (fun y T => y = x ∧ T = S ++ [o]) := by
  have hop : vcO P q F S (fun y T => splitG g.isG y fun y => y = x ∧ T = S) g.op → vcO P q F (S ++ [o]) (fun y T => splitG g.isG y fun y => y = x ∧ T = S ++ [o]) g.op := fun h => by
    obtain ⟨y, h1, h2⟩ := quietO hq hc h
    have h3 := h2 F (fun z T => z = y ∧ T = S) (fun _ _ => rfl) ⟨rfl, rfl⟩
    have h4 : vcOpD P F S (fun z T => z = y ∧ T = S) g.op := by
      cases q
      · rw [vcOpD_of (hc.resolve_left (by simp))]; exact h3
      · exact h3
    have h5 := quiet_push (o := o) hq h4
    have h6 : vcO P q F (S ++ [o]) (fun z T => z = y ∧ T = S ++ [o]) g.op := by
      cases q
      · exact vcOpD_op h5
      · exact h5
    refine vcO_mono h6 ?_
    rintro z T ⟨rfl, rfl⟩
    exact splitG_mono h1 fun z hz => ⟨hz.1, rfl⟩
  unfold vcG at h ⊢
  split
  · rename_i hg; rw [hg] at h; exact hop h
  · rename_i s want hg
    rw [hg] at h
    simp only at h
    generalize F.get s = c at *
    cases c <;> cases want <;> simp only at h ⊢ <;> first | exact h.elim | exact ⟨h.1, by trivial⟩ | exact hop h
theorem op_new {F : Frame} {S : Store} {K : AVal → Store → Prop} {so : SOp} (hn : so.isNew = true) (h : vcOp P F S K so) : vcOp P F S (fun y T => K y T ∧ ∃ o, T = S ++ [o]) so := by
  cases so <;> simp only [SOp.isNew] at hn <;> first | (cases hn; done) | skip
  case newnil k => simp only [vcOp, wPush_iff] at h ⊢; exact fun v => ⟨h v, _, rfl⟩
  case mkmap => simp only [vcOp, wPush_iff] at h ⊢; exact fun v => ⟨h v, _, rfl⟩
  case mrange x =>
    simp only [vcOp, rdK_iff] at h ⊢
    generalize rd F x = X at *
    cases X <;> first | exact h.elim | skip
    obtain ⟨es, h1, h2⟩ := wMap_iff.1 h
    simp only [wPush_iff] at h2
    refine wMap_iff.2 ⟨es, h1, ?_⟩
    simp only [wPush_iff]
    exact fun v => ⟨h2 v, _, rfl⟩
  case alloc k z => simp only [vcOp, wPush_iff] at h ⊢; exact fun v => ⟨h v, _, rfl⟩
  case box k x =>
    simp only [vcOp, wPush_iff, rdK_iff] at h ⊢
    exact wCells_mono h fun c h v => ⟨h v, _, rfl⟩
  case bslice ro len k z ps =>
    cases ro
    · simp only [vcOp, wPush_iff] at h ⊢
      exact wFill_mono h fun c h v => ⟨h v, _, rfl⟩
    · cases hn
  case s2b x =>
    simp only [vcOp, wPush_iff, rdK_iff] at h ⊢
    generalize rd F x = X at *
    cases X <;> first | exact h.elim | exact fun v => ⟨h v, _, rfl⟩
  case mkslice k b z x y =>
    simp only [vcOp, wPush_iff, rdK_iff] at h ⊢
    obtain ⟨kk, j, e, h1, h2, h3⟩ := wIdx_iff h
    rw [e] at h1 ⊢
    exact ⟨j, rfl, h1, h2, fun v => ⟨h3 v, _, rfl⟩⟩
theorem new_call {so : SOp} (hn : so.isNew = true) : so.isCall = false := by
  cases so <;> simp only [SOp.isNew] at hn <;> first | rfl | cases hn
theorem vcG_new {q : Bool} {g : GOp} {F : Frame} {S : Store} {K : AVal → Store → Prop} (hn : g.op.isNew = true) (h : vcG P q g F S K) : vcG P q g F S (fun y T => K y T ∧ (T = S ∨ ∃ o, T = S ++ [o])) := by
  have hop : vcO P q F S (fun y T => splitG g.isG y fun y => K y T) g.op → vcO P q F S (fun y T => splitG g.isG y fun y => K y T ∧ (T = S ∨ ∃ o, T = S ++ [o])) g.op := fun h => by
    rw [vcO_of (new_call hn)] at h ⊢
    exact op_mono (new_call hn) (op_new hn h) fun z T hz => splitG_mono hz.1 fun z h => ⟨h, .inr hz.2⟩
  unfold vcG at h ⊢
  split
  · rename_i hg; rw [hg] at h; exact hop h
  · rename_i s want hg
    rw [hg] at h
    simp only at h
    generalize F.get s = c at *
    cases c <;> cases want <;> simp only at h ⊢ <;> first | exact h.elim | exact ⟨h, .inl rfl⟩ | exact ⟨h, by simp⟩ | (simpa using h) | exact hop h

/-! ### The order of two -/
theorem put_comm {F : Frame} {a b : GOp} {x y : AVal} (hz : hazard a b = false) (t : Nat) : (putF (putF F a.dst x) b.dst y).get t = (putF (putF F b.dst y) a.dst x).get t := by
  simp only [putF_get]
  by_cases h1 : b.dst = some t
  · rw [if_pos h1]
    rw [if_neg]
    · rw [if_pos h1]
    · intro h2
      simp [hazard, h2, GOp.names, h1] at hz
  · rw [if_neg h1, if_neg h1]
theorem hz_reads {F : Frame} {a b : GOp} {x : AVal} (hz : hazard a b = false) : ∀ t ∈ b.reads, (putF F a.dst x).get t = F.get t := fun t ht => by
  rw [putF_get, if_neg]
  intro h
  have hm : t ∈ b.names := by
    simp only [GOp.reads, List.mem_append] at ht
    simp only [GOp.names, List.mem_append]
    rcases ht with h | h
    · exact .inl (.inr h)
    · exact .inr h
  simp [hazard, h, hm] at hz
theorem hz_symm {a b : GOp} (hz : hazard a b = false) : hazard b a = false := by
  simp only [hazard, Bool.or_eq_false_iff] at hz ⊢
  exact ⟨hz.2, hz.1⟩
theorem res_form {F : Frame} {so : SOp} {d : Nat} (h : so.resD = some d) : ∃ (C : Prop) (O : Nat → Ob) (V : Nat → Nat → AVal), ∀ (S : Store) (K : AVal → Store → Prop),
    vcOp P F S K so ↔ (C ∧ 0 < d ∧ d ≤ S.length ∧ S[S.length - d]? = some .dead ∧ ∀ v, K (V (S.length - d) v) (S.set (S.length - d) (O v))) := by
  cases so <;> simp only [SOp.resD, reduceCtorEq] at h
  case mkres d k b z x y =>
    cases h
    by_cases hx : ∃ (kk : IntKind) (j : Nat), rd F x = .int kk (j : Int)
    · obtain ⟨kk, j, e⟩ := hx
      refine ⟨rd F y = rd F x ∧ b * j ≤ 140737488355328, fun v => .row v k (List.replicate j z).flatten, fun l v => .sl l v 0 j, fun S K => ?_⟩
      simp only [vcOp, rdK_iff, e, wIdx]
      constructor
      · rintro ⟨j', e', h1, h2, h3, h4, h5, h6⟩
        have : j' = j := by omega
        subst this
        exact ⟨⟨h1, h2⟩, h3, h4, h5, h6⟩
      · rintro ⟨⟨h1, h2⟩, h3, h4, h5, h6⟩
        exact ⟨j, rfl, h1, h2, h3, h4, h5, h6⟩
    · refine ⟨False, fun _ => .dead, fun _ _ => .junk, fun S K => ⟨fun h => ?_, fun h => h.1.elim⟩⟩
      simp only [vcOp, rdK_iff] at h
      obtain ⟨kk, j, e, _⟩ := wIdx_iff h
      exact absurd ⟨kk, j, e⟩ hx
  case alres d k z =>
    cases h
    exact ⟨True, fun v => .row v k z, fun l v => .ptr l v 0, fun S K => by simp only [vcOp, true_and]⟩
theorem res_open {q : Bool} {g : GOp} {F : Frame} {S : Store} {K : AVal → Store → Prop} {d : Nat} (h1 : g.guard = none) (h2 : g.isG = false) (h3 : g.op.resD = some d) : vcG P q g F S K ↔ vcOp P F S K g.op := by
  have hc : g.op.isCall = false := by cases hg : g.op <;> rw [hg] at h3 <;> first | rfl | cases h3
  unfold vcG
  rw [h1, h2]
  simp only [splitG]
  rw [vcO_of hc]
theorem swap {qa qb : Bool} {a b : GOp} {F : Frame} {S : Store} {R : Frame → Store → Prop} (hok : mayPass qa qb a b = true) (hR : ∀ F F' S, (∀ t, F.get t = F'.get t) → R F S → R F' S)
    (h : vcG P qa a F S fun x S1 => vcG P qb b (putF F a.dst x) S1 fun y S2 => R (putF (putF F a.dst x) b.dst y) S2) :
    vcG P qb b F S fun y S1 => vcG P qa a (putF F b.dst y) S1 fun x S2 => R (putF (putF F b.dst y) a.dst x) S2 := by
  simp only [mayPass, Bool.and_eq_true, Bool.or_eq_true, Bool.not_eq_true'] at hok
  obtain ⟨hz, hok⟩ := hok
  rcases hok with ((hf | ⟨⟨ha, hca⟩, hn | ⟨hb, hcb⟩⟩) | hok) | hok
  · obtain ⟨x, h1, h2⟩ := vcG_free hf h
    have h3 := vcG_congr (F' := F) (hz_reads hz) h1
    exact vcG_mono h3 fun y S2 hy => h2 _ S2 _ (fun t ht => (hz_reads (hz_symm hz) t ht).symm) (hR _ _ _ (put_comm hz) hy)
  · obtain ⟨x, h1, h2⟩ := vcG_quiet ha hca h
    have h3 := vcG_new hn (vcG_congr (F' := F) (hz_reads hz) h1)
    refine vcG_mono h3 fun y S2 hy => ?_
    obtain ⟨hy, hS⟩ := hy
    have h4 := h2 (putF F b.dst y) (fun z T => z = x ∧ T = S) (fun t ht => (hz_reads (hz_symm hz) t ht).symm) ⟨rfl, rfl⟩
    have h5 : vcG P qa a (putF F b.dst y) S2 (fun z T => z = x ∧ T = S2) := by
      rcases hS with rfl | ⟨o, rfl⟩
      · exact h4
      · exact vcG_push ha hca h4
    refine vcG_mono h5 ?_
    rintro z T ⟨rfl, rfl⟩
    exact hR _ _ _ (put_comm hz) hy
  · obtain ⟨x, h1, h2⟩ := vcG_quiet ha hca h
    have h3 := vcG_congr (F' := F) (hz_reads hz) h1
    obtain ⟨y, h4, h5⟩ := vcG_quiet hb hcb h3
    exact h5 F _ (fun _ _ => rfl) (h2 _ _ (fun t ht => (hz_reads (hz_symm hz) t ht).symm) (hR _ _ _ (put_comm hz) h4))
  · split at hok
    · rename_i d d' ha hb
      simp only [Bool.and_eq_true, bne_iff_ne, ne_eq, Option.isNone_iff_eq_none, Bool.not_eq_true'] at hok
      obtain ⟨⟨⟨⟨hd, ga⟩, gb⟩, ia⟩, ib⟩ := hok
      have slo : ∀ {g h : GOp} {F : Frame} {v : AVal}, hazard g h = false → ∀ t ∈ h.op.slots, (putF F g.dst v).get t = F.get t := fun hz t ht => hz_reads hz t (by simp [GOp.reads, ht])
      obtain ⟨Ca, Oa, Va, fa⟩ := res_form (P := P) (F := F) ha
      obtain ⟨Cb, Ob_, Vb, fb⟩ := res_form (P := P) (F := F) hb
      rw [res_open ga ia ha, fa] at h
      obtain ⟨c1, c2, c3, c4, h6⟩ := h
      have hb' := fun v => op_congr (F' := F) (slo hz) ((res_open gb ib hb).1 (h6 v))
      obtain ⟨g1, g2, g3, g4, _⟩ := (fb _ _).1 (hb' 0)
      have hne : S.length - d ≠ S.length - d' := by rw [List.length_set] at g3; omega
      rw [List.length_set] at g3 g4
      rw [List.getElem?_set_ne hne] at g4
      rw [res_open gb ib hb, fb]
      refine ⟨g1, g2, g3, g4, fun v => ?_⟩
      rw [res_open ga ia ha]
      refine op_congr (F := F) (fun t ht => (slo (hz_symm hz) t ht).symm) ((fa _ _).2 ⟨c1, c2, by rw [List.length_set]; exact c3, ?_, fun v' => ?_⟩)
      · rw [List.length_set, List.getElem?_set_ne (Ne.symm hne)]; exact c4
      · have hh := ((fb _ _).1 (hb' v')).2.2.2.2 v
        simp only [List.length_set] at hh ⊢
        rw [List.set_comm _ _ hne] at hh
        exact hR _ _ _ (put_comm hz) hh
    · cases hok
  · simp only [Bool.and_eq_true, Option.isNone_iff_eq_none, Bool.not_eq_true', Option.isSome_iff_exists] at hok
    obtain ⟨⟨⟨⟨⟨hl, d, hb⟩, ga⟩, gb⟩, ia⟩, ib⟩ := hok
    cases ea : a.op <;> rw [ea] at hl <;> simp only [SOp.isLoad] at hl <;> first | (cases hl; done) | skip
    rename_i n ag r
    have open_ : ∀ {F : Frame} {S : Store} {K : AVal → Store → Prop}, vcG P qa a F S K ↔ wLoad S n ag (rd F r) fun x => K x S := fun {F S K} => by
      unfold vcG
      rw [ga, ia, ea]
      simp only [splitG]
      rw [vcO_of rfl]
      simp only [vcOp, rdK_iff]
    have sl : ∀ v, rd (putF F b.dst v) r = rd F r := fun v => rd_congr fun t ht => hz_reads (hz_symm hz) t (by simp [GOp.reads, ea, SOp.slots, ht])
    have slo : ∀ {v : AVal}, ∀ t ∈ b.op.slots, (putF F a.dst v).get t = F.get t := fun t ht => hz_reads hz t (by simp [GOp.reads, ht])
    rw [open_] at h
    obtain ⟨x, h1, h2⟩ := det_load _ h
    rw [res_open gb ib hb] at h1
    obtain ⟨Cb, Ob_, Vb, fb⟩ := res_form (P := P) (F := F) hb
    obtain ⟨c1, c2, c3, c4, c5⟩ := (fb _ _).1 (op_congr (F' := F) slo h1)
    rw [res_open gb ib hb, fb]
    refine ⟨c1, c2, c3, c4, fun v => ?_⟩
    rw [open_, sl]
    exact load_set c4 (h2 _ (hR _ _ _ (put_comm hz) (c5 v)))
theorem vcR_congr {K : Frame → Store → Prop} (hK : ∀ F F' S, (∀ t, F.get t = F'.get t) → K F S → K F' S) : ∀ (l : List (Nat × Bool × GOp)) (F F' : Frame) (S : Store), (∀ t, F.get t = F'.get t) → vcR P K l F S → vcR P K l F' S
  | [], F, F', S, he, h => hK _ _ _ he h
  | x :: l, F, F', S, he, h => by
    simp only [vcR] at h ⊢
    refine vcG_mono (vcG_congr (fun t _ => he t) h) fun y S' hy => ?_
    have hh : ∀ t, (putF F x.2.2.dst y).get t = (putF F' x.2.2.dst y).get t := fun t => by
      rw [putF_get, putF_get]
      split
      · rfl
      · exact he t
    exact ⟨chks_congr (fun k _ t _ => hh t) hy.1, vcR_congr hK l _ _ _ hh hy.2⟩
theorem vcR_mono {K K' : Frame → Store → Prop} (hk : ∀ F S, K F S → K' F S) : ∀ (l : List (Nat × Bool × GOp)) {F : Frame} {S : Store}, vcR P K l F S → vcR P K' l F S
  | [], F, S, h => hk _ _ h
  | x :: l, F, S, h => by
    simp only [vcR] at h ⊢
    exact vcG_mono h fun y S' hy => ⟨hy.1, vcR_mono hk l hy.2⟩
theorem pull {q : Bool} {a : GOp} {F : Frame} {S : Store} {Q : AVal → Store → Prop} {c : List (Nat × Nat × Bool × Rand)} (hq : a.op.quiet = true) (hc : q = true ∨ a.op.isCall = false) (hd : ∀ k ∈ c, ∀ d, a.dst = some d → d ∉ k.1 :: k.2.2.2.slots)
    (h : vcG P q a F S fun y S' => chks (putF F a.dst y) S' c ∧ Q y S') : chks F S c ∧ vcG P q a F S Q := by
  obtain ⟨y, h1, h2⟩ := vcG_quiet hq hc h
  refine ⟨chks_congr (fun k hk t ht => ?_) h1.1, h2 F Q (fun _ _ => rfl) h1.2⟩
  rw [putF_get, if_neg fun e => hd k hk t e ht]
theorem swapL {qa qb : Bool} {a b : GOp} {k : Nat × Nat × Bool × Rand} {F : Frame} {S : Store} {R : Frame → Store → Prop} (ha : a.op = .load k.2.1 k.2.2.1 k.2.2.2) (hd : a.dst = some k.1) (hg : a.guard = none) (hi : a.isG = false) (hs : k.1 ∉ k.2.2.2.slots)
    (hz : hazard a b = false) (hR : ∀ F F' S, (∀ t, F.get t = F'.get t) → R F S → R F' S)
    (h : vcG P qa a F S fun x S1 => vcG P qb b (putF F a.dst x) S1 fun y S2 => chk1 (putF (putF F a.dst x) b.dst y) S2 k ∧ R (putF (putF F a.dst x) b.dst y) S2) :
    vcG P qb b F S fun y S1 => vcG P qa a (putF F b.dst y) S1 fun x S2 => R (putF (putF F b.dst y) a.dst x) S2 := by
  obtain ⟨x, h1, _⟩ := vcG_quiet (by rw [ha]; rfl) (.inr (by rw [ha]; rfl)) h
  refine vcG_mono (vcG_congr (F' := F) (hz_reads hz) h1) fun y S2 ⟨hk, hy⟩ => ?_
  have hn : ∀ t ∈ k.1 :: k.2.2.2.slots, b.dst ≠ some t := fun t ht e => by
    have : t ∈ a.names := by
      simp only [GOp.names, ha, hd, SOp.slots, Option.toList_some, List.mem_append, List.mem_singleton]
      rcases List.mem_cons.1 ht with rfl | ht
      · exact .inl (.inl rfl)
      · exact .inl (.inr ht)
    simp [hazard, e, this] at hz
  have e1 : (putF (putF F a.dst x) b.dst y).get k.1 = x := by
    rw [putF_get, if_neg (hn k.1 (by simp)), putF_get, if_pos hd]
  have e2 : rd (putF (putF F a.dst x) b.dst y) k.2.2.2 = rd (putF F b.dst y) k.2.2.2 := rd_congr fun t ht => by
    rw [putF_get, if_neg (hn t (by simp [ht])), putF_get, if_neg, putF_get, if_neg (hn t (by simp [ht]))]
    rw [hd]; intro e; cases e; exact hs ht
  unfold chk1 at hk
  rw [e1, e2] at hk
  obtain ⟨z, ez, hk2⟩ := det_load _ hk
  have ez : z = x := ez
  subst ez
  unfold vcG
  rw [hg, hi, ha]
  have hcl : SOp.isCall (.load k.2.1 k.2.2.1 k.2.2.2) = false := rfl
  simp only [splitG]
  rw [vcO_of hcl]
  simp only [vcOp, rdK_iff]
  exact hk2 _ (hR _ _ _ (put_comm hz) hy)
theorem bubble {K : Frame → Store → Prop} (hK : ∀ F F' S, (∀ t, F.get t = F'.get t) → K F S → K F' S) {x : Nat × Bool × GOp} {B : List (Nat × Bool × GOp)} : ∀ (A : List (Nat × Bool × GOp)) (c : List (Nat × Nat × Bool × Rand)) {F : Frame} {S : Store}, (∀ a ∈ A, mayPass2 a.2.1 x.2.1 a.2.2 x.2.2 = true) →
    (∀ k ∈ c, k ∈ x.2.2.chk) → (∀ a ∈ A, ∀ k ∈ c, ∀ d, a.2.2.dst = some d → d ∉ k.1 :: k.2.2.2.slots) → (x.2.2.chk = [] ∨ A.Pairwise fun a a' => a.2.2.op.isLoad = true → ∀ d, a'.2.2.dst = some d → d ∉ a.2.2.names) →
    vcR P K (A ++ x :: B) F S → vcG P x.2.1 x.2.2 F S fun y S' => chks (putF F x.2.2.dst y) S' c ∧ vcR P K (A ++ B) (putF F x.2.2.dst y) S'
  | [], c, F, S, _, hc, _, _, h => by
    simp only [List.nil_append, vcR] at h
    exact vcG_mono h fun y S' hy => ⟨fun k hk => hy.1 k (hc k hk), hy.2⟩
  | a :: A, c, F, S, hA, hc, hw, hp, h => by
    have h' : vcR P K (a :: (A ++ x :: B)) F S := h
    simp only [vcR] at h'
    have hok := hA a (by simp)
    simp only [mayPass2, Bool.and_eq_true, Bool.or_eq_true, List.isEmpty_iff, Bool.not_eq_true'] at hok
    obtain ⟨hac, hok⟩ := hok
    have fin : ∀ {y : AVal} {S' : Store}, vcR P K (A ++ B) (putF (putF F x.2.2.dst y) a.2.2.dst y) S' → True := fun _ => trivial
    have hp' : x.2.2.chk = [] ∨ A.Pairwise fun a a' => a.2.2.op.isLoad = true → ∀ d, a'.2.2.dst = some d → d ∉ a.2.2.names := hp.imp id fun h => (List.pairwise_cons.1 h).2
    have done : ∀ {y : AVal} {S' : Store}, chks (putF F x.2.2.dst y) S' c ∧ (vcG P a.2.1 a.2.2 (putF F x.2.2.dst y) S' fun z T => vcR P K (A ++ B) (putF (putF F x.2.2.dst y) a.2.2.dst z) T) → chks (putF F x.2.2.dst y) S' c ∧ vcR P K (a :: A ++ B) (putF F x.2.2.dst y) S' := fun ⟨g1, g2⟩ => by
      refine ⟨g1, ?_⟩
      simp only [List.cons_append, vcR]
      refine vcG_mono g2 fun z T hz => ⟨?_, hz⟩
      rw [hac]
      intro k hk
      cases hk
    have hRc : ∀ (c : List (Nat × Nat × Bool × Rand)) (F F' : Frame) (S : Store), (∀ t, F.get t = F'.get t) → chks F S c ∧ vcR P K (A ++ B) F S → chks F' S c ∧ vcR P K (A ++ B) F' S := fun c F F' S he hh => ⟨chks_congr (fun k _ t _ => he t) hh.1, vcR_congr hK (A ++ B) _ _ _ he hh.2⟩
    rcases hok with ⟨hm, hq⟩ | ⟨hz, hl⟩
    · have h2 := vcG_mono h' fun y S' hy => bubble hK A c (fun b hb => hA b (by simp [hb])) hc (fun b hb => hw b (by simp [hb])) hp' hy.2
      have h3 := swap hm (R := fun F S => chks F S c ∧ vcR P K (A ++ B) F S) (hRc c) h2
      refine vcG_mono h3 fun y S' hy => done ?_
      rcases hq with hq | ⟨hq, hcl⟩
      · have : c = [] := by
          cases c with
          | nil => rfl
          | cons k c => have := hc k (by simp); rw [hq] at this; cases this
        subst this
        exact ⟨fun k hk => (by cases hk), vcG_mono hy fun z T hz => hz.2⟩
      · exact pull hq hcl (hw a (by simp)) hy
    · unfold passLoad at hl
      split at hl
      case h_2 => cases hl
      rename_i n ag r t hop hdst
      simp only [Bool.and_eq_true, Option.isNone_iff_eq_none, Bool.not_eq_true', bne_iff_ne, ne_eq, List.any_eq_true, beq_iff_eq] at hl
      obtain ⟨⟨⟨hg, hi⟩, htr⟩, ⟨k1, k2, k3, k4⟩, hk, ⟨⟨e1, e2⟩, e3⟩, e4⟩ := hl
      subst e1; subst e2; subst e3
      split at e4
      case h_2 => cases e4
      rename_i s hs4
      simp only [beq_iff_eq] at e4
      subst e4
      subst hs4
      have hne : x.2.2.chk ≠ [] := fun e => by rw [e] at hk; cases hk
      have hpa := hp.resolve_left hne
      have hnames : ∀ t ∈ k1 :: Rand.slots (.t s), t ∈ a.2.2.names := fun t ht => by
        simp only [GOp.names, hop, hdst, SOp.slots, Option.toList_some, List.mem_append, List.mem_singleton]
        rcases List.mem_cons.1 ht with rfl | ht
        · exact .inl (.inl rfl)
        · exact .inl (.inr ht)
      have h2 := vcG_mono h' fun y S' hy => bubble hK A ((k1, k2, k3, .t s) :: c) (fun b hb => hA b (by simp [hb])) (fun k hk' => by
          rcases List.mem_cons.1 hk' with rfl | hk'
          · exact hk
          · exact hc k hk') (fun b hb k hk' d hd => by
          rcases List.mem_cons.1 hk' with rfl | hk'
          · exact fun hm => (List.pairwise_cons.1 hpa).1 b hb (by rw [hop]; rfl) d hd (hnames d hm)
          · exact hw b (by simp [hb]) k hk' d hd) hp' hy.2
      have h3 := vcG_mono h2 fun y S' hy => vcG_mono hy fun z T hz => show chk1 (putF (putF F a.2.2.dst y) x.2.2.dst z) T (k1, k2, k3, .t s) ∧ (chks (putF (putF F a.2.2.dst y) x.2.2.dst z) T c ∧ vcR P K (A ++ B) (putF (putF F a.2.2.dst y) x.2.2.dst z) T) from
        ⟨hz.1 _ (by simp), fun k hk => hz.1 k (by simp [hk]), hz.2⟩
      have h4 := swapL (k := (k1, k2, k3, .t s)) (R := fun F S => chks F S c ∧ vcR P K (A ++ B) F S) hop hdst hg hi (by simpa [Rand.slots] using htr) hz (hRc c) h3
      refine vcG_mono h4 fun y S' hy => done ?_
      exact pull (by rw [hop]; rfl) (.inr (by rw [hop]; rfl)) (hw a (by simp)) hy

theorem vcR_of : ∀ (π : List Nat) {gl : List GOp} {K : Frame → Store → Prop} {m : Nat} {F : Frame} {S : Store}, noChk ((permG π gl).take m) = true → vcOpsD P K m (expandG (permG π gl)) F S → vcR P K (numG gl m π) F S
  | [], gl, K, m, F, S, _, h => by
    cases m <;> simpa [permG, expandG, numG, vcR, vcOpsD, vcOps] using h
  | i :: π, gl, K, m, F, S, hn, h => by
    have e : permG (i :: π) gl = gl.getD i default :: permG π gl := rfl
    rw [e] at h hn
    have hn' : noChk ((permG π gl).take (m - 1)) = true := by
      cases m with
      | zero => simp [noChk]
      | succ m =>
        simp only [List.take_succ_cons, noChk, List.all_cons, Bool.and_eq_true] at hn
        exact hn.2
    have rec0 : ∀ {F : Frame} {S : Store}, vcOpsD P K (m - 1) (expandG (permG π gl)) F S → vcR P K (numG gl (m - 1) π) F S := fun h => vcR_of π hn' h
    simp only [numG, vcR]
    simp only [expandG] at h
    generalize gl.getD i default = o at *
    have hm0 : m ≠ 0 → o.chk = [] := fun h0 => by
      cases m with
      | zero => exact (h0 rfl).elim
      | succ m =>
        simp only [List.take_succ_cons, noChk, List.all_cons, Bool.and_eq_true, List.isEmpty_iff] at hn
        exact hn.1
    have rec_ : ∀ {F : Frame} {S : Store}, vcOpsD P K (m - 1) (o.chk.map againG ++ expandG (permG π gl)) F S → chks F S o.chk ∧ vcR P K (numG gl (m - 1) π) F S := fun h => by
      by_cases h0 : m = 0
      · subst h0
        obtain ⟨h1, h2⟩ := chks_ops _ h
        exact ⟨h1, rec0 h2⟩
      · rw [hm0 h0] at h ⊢
        exact ⟨fun k hk => (by cases hk), rec0 h⟩
    unfold vcG
    cases m with
    | zero =>
      simp only [vcOpsD, vcOps] at h
      simp only [vcOpsD, Nat.zero_sub] at rec_
      have hop : vcOp P F S (fun x S' => splitG o.isG x fun x => vcOps P K (o.chk.map againG ++ expandG (permG π gl)) (putF F o.dst x) S') o.op → vcO P (decide (0 < 0)) F S (fun x S' => splitG o.isG x fun x => chks (putF F o.dst x) S' o.chk ∧ vcR P K (numG gl (0 - 1) π) (putF F o.dst x) S') o.op := fun h =>
        vcO_mono (q := false) (show vcO P false F S (fun x S' => splitG o.isG x fun x => vcOps P K (o.chk.map againG ++ expandG (permG π gl)) (putF F o.dst x) S') o.op from h) fun x S' h => splitG_mono h fun x h => rec_ h
      cases hg : o.guard with
      | none => rw [hg] at h; exact hop h
      | some sw =>
        obtain ⟨g, want⟩ := sw
        rw [hg] at h
        simp only [getK_iff] at h ⊢
        generalize F.get g = c at *
        cases c <;> cases want <;> simp only at h ⊢ <;> first | exact h.elim | exact hop h | exact rec_ h
    | succ m =>
      simp only [vcOpsD] at h
      simp only [Nat.add_sub_cancel] at rec_
      have hop : vcOpD P F S (fun x S' => splitG o.isG x fun x => vcOpsD P K m (o.chk.map againG ++ expandG (permG π gl)) (putF F o.dst x) S') o.op → vcO P (decide (0 < m + 1)) F S (fun x S' => splitG o.isG x fun x => chks (putF F o.dst x) S' o.chk ∧ vcR P K (numG gl (m + 1 - 1) π) (putF F o.dst x) S') o.op := fun h => by
        rw [show decide (0 < m + 1) = true from by simp]
        exact vcO_mono (q := true) (show vcO P true F S (fun x S' => splitG o.isG x fun x => vcOpsD P K m (o.chk.map againG ++ expandG (permG π gl)) (putF F o.dst x) S') o.op from h) fun x S' h => splitG_mono h fun x h => rec_ h
      cases hg : o.guard with
      | none => rw [hg] at h; exact hop h
      | some sw =>
        obtain ⟨g, want⟩ := sw
        rw [hg] at h
        simp only [getK_iff] at h ⊢
        generalize F.get g = c at *
        cases c <;> cases want <;> simp only at h ⊢ <;> first | exact h.elim | exact hop h | exact rec_ h

/-- **Whatever order is taken.** -/
theorem any_order {rr : Option Nat} {ops : Array Oper} {hint gl : List GOp} {W : List Nat} {Q : Exit → Act → World → Prop} {K : Frame → Store → Prop} {E0 : Env} {fz0 : Nat → Prop} {S0 : Store} {w0 : World} {a0 : Act}
    (hc : cOps P N ops ops.toList hint = some gl) (hedge : ∀ (j : Nat) o, ops[j]? = some o → ∀ e ∈ o.after, Region.binds .any e = true → e.on < j) (hW : ∀ g ∈ gl, ∀ t, g.dst = some t → t ∈ W)
    (hK : ∀ F F' S, (∀ t, F.get t = F'.get t) → K F S → K F' S) (hQ : ∀ a' w', After N E0 fz0 S0 w0 a0 W K a' w' → Q .normal a' w') :
    ∀ (fuel : Nat) (R : List (Nat × Bool × GOp)) (D : Array Bool) (a : Act) (w : World) (E : Env) (fz : Nat → Prop) (S : Store) (F : Frame), D.size = ops.size → Closed ops D → (∀ j, j < ops.size → (D.getD j false = false ↔ ∃ x ∈ R, x.1 = j)) →
      R.Pairwise (fun x y => okPair ops (noChk gl) x y = true) → (∀ x ∈ R, x.2.2 = gl.getD x.1 default ∧ x.1 < ops.size) → (R.map (·.1)).Nodup → R.length ≤ fuel → vcR P K R F S →
      Ext E0 fz0 S0 w0 E fz S w → St E fz S w → RelF E fz w F a.tmps → a.tmps.size = N → a.defers = a0.defers → (∀ t, t ∉ W → a.tmps[t]? = a0.tmps[t]?) → wpAnyIn (wf rr) 0 P .any ops Q fuel D a w := by
  obtain ⟨hlen, hget⟩ := cOps_get hc
  intro fuel
  induction fuel with
  | zero =>
    intro R D a w E fz S F hsz hcl hD hp hx hnd hf h hx0 st hF hN hd hu
    have hR : R = [] := List.length_eq_zero_iff.1 (by omega)
    subst hR
    refine ⟨List.eq_nil_iff_forall_not_mem.2 fun i hi => ?_, hQ a w ⟨F, S, E, fz, h, hx0, st, hF, hN, hd, hu⟩⟩
    obtain ⟨h0, o, ho, _⟩ := mem_ready.1 hi
    have hlt := (Array.getElem?_eq_some_iff.1 ho).1
    rw [getD_true (by omega)] at h0
    obtain ⟨x, hx, _⟩ := (hD i hlt).1 h0
    cases hx
  | succ fuel ih =>
    intro R D a w E fz S F hsz hcl hD hp hx hnd hf h hx0 st hF hN hd hu
    refine ⟨fun hr => ?_, fun i hi => ?_⟩
    · have hall := not_stuck hedge hsz hr
      have hR : R = [] := List.eq_nil_iff_forall_not_mem.2 fun x hx' => by
        have h1 := (hx x hx').2
        have h2 := (hD x.1 h1).2 ⟨x, hx', rfl⟩
        rw [hall _ h1] at h2; cases h2
      subst hR
      exact hQ a w ⟨F, S, E, fz, h, hx0, st, hF, hN, hd, hu⟩
    · obtain ⟨h0, o, ho, ha⟩ := mem_ready.1 hi
      have hlt := (Array.getElem?_eq_some_iff.1 ho).1
      rw [getD_true (by omega)] at h0
      obtain ⟨x, hxm, hxi⟩ := (hD i hlt).1 h0
      obtain ⟨A, B, rfl⟩ := List.append_of_mem hxm
      rw [List.pairwise_append] at hp
      obtain ⟨hpA, hpB, hpAB⟩ := hp
      have hpass : ∀ b ∈ A, mayPass2 b.2.1 x.2.1 b.2.2 x.2.2 = true := fun b hb => by
        have h1 := hpAB b hb x (by simp)
        simp only [okPair, Bool.and_eq_true] at h1
        have h1 := h1.1
        simp only [Bool.or_eq_true] at h1
        rcases h1 with h1 | h1
        · rw [hxi] at h1
          have h2 := ready_wait hcl hi h1
          have h3 := (hD b.1 (hx b (by simp [hb])).2).2 ⟨b, by simp [hb], rfl⟩
          rw [h2] at h3; cases h3
        · exact h1
      have hch : x.2.2.chk = [] ∨ A.Pairwise fun a a' => a.2.2.op.isLoad = true → ∀ d, a'.2.2.dst = some d → d ∉ a.2.2.names := by
        by_cases hnc : noChk gl = true
        · refine .inl ?_
          obtain ⟨x1, x2⟩ := hx x (by simp)
          have hxl : x.1 < gl.length := by rw [← hlen]; simpa using x2
          simp only [noChk, List.all_eq_true, List.isEmpty_iff] at hnc
          refine hnc _ ?_
          rw [x1, List.getD_eq_getElem?_getD, List.getElem?_eq_getElem hxl]
          simp
        · refine .inr (hpA.imp fun {a a'} hq hld d hd => ?_)
          simp only [okPair, Bool.and_eq_true, Bool.or_eq_true, hnc, false_or, Bool.false_eq_true, Bool.not_eq_true', hld, Bool.true_eq_false] at hq
          have := hq.2
          simp only [overB, hd, List.contains_eq_mem, decide_eq_false_iff_not] at this
          exact this
      have hb := vcG_mono (bubble hK A [] hpass (fun k hk => (by cases hk)) (fun a _ k hk => (by cases hk)) hch h) fun y S' hy => hy.2
      obtain ⟨g, ro, hg, hcop, hgd, hdst, hdo⟩ := hget i o (by simpa using ho)
      have hxg : x.2.2 = g := by rw [(hx x (by simp)).1, hxi, List.getD_eq_getElem?_getD, hg]; rfl
      rw [hxg] at hb
      refine op_step ho hcop hgd st hF hb fun y S' E' fz' w' v hk' hx' hs hr => ?_
      have nd : ∀ b ∈ A ++ B, b.1 ≠ i := fun b hb e => by
        simp only [List.map_append, List.map_cons, List.nodup_append, List.nodup_cons, List.mem_map, List.mem_cons] at hnd
        rcases List.mem_append.1 hb with hb | hb
        · exact hnd.2.2 b.1 ⟨b, hb, rfl⟩ x.1 (.inl rfl) (by rw [e, hxi])
        · exact hnd.2.1.1 ⟨b, hb, by rw [e, hxi]⟩
      refine ih (A ++ B) _ _ w' E' fz' S' (putF F g.dst y) (by simpa using hsz) (closed_set hcl hsz hi) (fun j hj => ?_) ?_ (fun z hz => hx z ?_) ?_ ?_ hk' (hx0.trans hx') hs (by rw [hdst]; exact relF_put (RelF.mono st hx' hF) hr (by rw [hN]; exact hdo)) (by rw [put_size]; exact hN) (by rw [put_defers]; exact hd) fun t ht => ?_
      · rw [getD_set (by omega)]
        by_cases e : j = i
        · rw [if_pos e]
          refine ⟨fun h => (by cases h), fun ⟨b, hb, e'⟩ => (nd b hb (by rw [e', e])).elim⟩
        · rw [if_neg e, hD j hj]
          constructor
          · rintro ⟨b, hb, e'⟩
            refine ⟨b, ?_, e'⟩
            rcases List.mem_append.1 hb with hb | hb
            · exact List.mem_append.2 (.inl hb)
            · rcases List.mem_cons.1 hb with rfl | hb
              · exact (e (by rw [← e', hxi])).elim
              · exact List.mem_append.2 (.inr hb)
          · rintro ⟨b, hb, e'⟩
            refine ⟨b, ?_, e'⟩
            rcases List.mem_append.1 hb with hb | hb
            · exact List.mem_append.2 (.inl hb)
            · exact List.mem_append.2 (.inr (List.mem_cons_of_mem _ hb))
      · exact List.pairwise_append.2 ⟨hpA, (List.pairwise_cons.1 hpB).2, fun b hb c hc => hpAB b hb c (List.mem_cons_of_mem _ hc)⟩
      · rcases List.mem_append.1 hz with hb | hb
        · exact List.mem_append.2 (.inl hb)
        · exact List.mem_append.2 (.inr (List.mem_cons_of_mem _ hb))
      · simp only [List.map_append, List.map_cons, List.nodup_append, List.nodup_cons] at hnd ⊢
        exact ⟨hnd.1, hnd.2.1.2, fun b hb c hc => hnd.2.2 b hb c (List.mem_cons_of_mem _ hc)⟩
      · simp only [List.length_append, List.length_cons] at hf ⊢; omega
      · rw [put_other, hu t ht]
        intro e
        exact ht (hW g (List.mem_of_getElem? hg) t (by rw [hdst, e]))

theorem allPairs_iff {ops : Array Oper} {nc : Bool} : ∀ {l : List (Nat × Bool × GOp)}, allPairs ops nc l = true → l.Pairwise (fun x y => okPair ops nc x y = true)
  | [], _ => .nil
  | x :: l, h => by
    simp only [allPairs, Bool.and_eq_true, List.all_eq_true] at h
    exact .cons h.1 (allPairs_iff h.2)
theorem numG_map {gl : List GOp} : ∀ (π : List Nat) (m : Nat), (numG gl m π).map (·.1) = π
  | [], _ => rfl
  | i :: π, m => by simp [numG, numG_map π]
theorem numG_mem {gl : List GOp} : ∀ {π : List Nat} {m : Nat} {x : Nat × Bool × GOp}, x ∈ numG gl m π → x.2.2 = gl.getD x.1 default ∧ x.1 ∈ π
  | [], _, _, h => by simp [numG] at h
  | i :: π, m, x, h => by
    simp only [numG] at h
    rcases List.mem_cons.1 h with rfl | h
    · exact ⟨rfl, by simp⟩
    · have := numG_mem h; exact ⟨this.1, by simp [this.2]⟩
theorem nodup_of : ∀ {l : List Nat}, nodupB l = true → l.Nodup
  | [], _ => .nil
  | a :: l, h => by
    simp only [nodupB, Bool.and_eq_true, Bool.not_eq_true', List.contains_eq_mem, decide_eq_false_iff_not] at h
    exact List.nodup_cons.2 ⟨h.1, nodup_of h.2⟩

theorem expand_mem {g : GOp} : ∀ {l : List GOp}, g ∈ l → g ∈ expandG l
  | [], h => by cases h
  | o :: l, h => by
    rcases List.mem_cons.1 h with rfl | h
    · simp [expandG]
    · simp only [expandG]
      exact List.mem_cons_of_mem _ (List.mem_append.2 (.inr (expand_mem h)))
theorem draw_region {rr : Option Nat} {id : Nat} {ops : Array Oper} {hint gl : List GOp} {m : Nat} {π : List Nat} (hc : cOps P N ops ops.toList hint = some gl) (hok : drawOk ops m π gl = true) (hf : P.follows .mixedOrders = true)
    {K : Frame → Store → Prop} {E : Env} {fz : Nat → Prop} {S : Store} {w : World} {F : Frame} {a : Act} (st : St E fz S w) (hF : RelF E fz w F a.tmps) (hN : a.tmps.size = N) (h : vcOpsD P K m (expandG (permG π gl)) F S) :
    (Code.region id ops true).wpIn (wf rr) 0 P (fun e a' w' => e = .normal ∧ After N E fz S w a (gWrites (expandG (permG π gl))) K a' w') a w := by
  obtain ⟨hlen, hget⟩ := cOps_get hc
  simp only [drawOk, Bool.and_eq_true, List.all_eq_true, List.mem_range, decide_eq_true_eq, List.contains_eq_mem] at hok
  obtain ⟨⟨⟨⟨⟨k1, k2⟩, k3⟩, k4⟩, k5⟩, k6⟩ := hok
  obtain ⟨st', hx'⟩ := st.same (w' := { w with drawn := w.drawn + 1 }) rfl rfl rfl (Tp.of rfl (Nat.le_succ _))
  have hrep : ∀ j, (Array.replicate ops.size false).getD j false = false := fun j => by
    rw [Array.getD_eq_getD_getElem?]
    cases hj : (Array.replicate ops.size false)[j]? with
    | none => rfl
    | some b => simp [Array.getElem?_replicate] at hj; simp [hj.2]
  have hm := numG_map (gl := gl) π m
  have hnd := nodup_of k1
  have hlen2 : (numG gl m π).length ≤ ops.size := by
    have h1 : (numG gl m π).length = π.length := by have := congrArg List.length hm; simpa only [List.length_map] using this
    rw [h1]
    have h2 : π.length ≤ (List.range ops.size).length := by
      refine hnd.length_le_of_subset fun i hi => List.mem_range.2 (k2 i hi)
    simpa using h2
  have hWr : ∀ g ∈ gl, ∀ t, g.dst = some t → t ∈ gWrites (expandG (permG π gl)) := fun g hg t ht => by
    obtain ⟨i, hi, e⟩ := List.getElem_of_mem hg
    have hin : i < ops.size := by have : ops.toList.length = gl.length := hlen; simp at this; omega
    refine gWrites_mem (g := g) (expand_mem ?_) ht
    simp only [permG, List.mem_map]
    exact ⟨i, k3 i hin, by rw [List.getD_eq_getElem?_getD, List.getElem?_eq_getElem hi, e]; rfl⟩
  have hv := vcR_mono (K' := fun F' S' => ∃ F0, (∀ t, F0.get t = F'.get t) ∧ K F0 S') (fun F' S' h => ⟨F', fun _ => rfl, h⟩) _ (vcR_of π k6 h)
  have g1 : ∀ (j : Nat) o, ops[j]? = some o → ∀ e ∈ o.after, Region.binds .any e = true → e.on < j := fun j o ho e he hb => by
    have hj : j < ops.size := (Array.getElem?_eq_some_iff.1 ho).1
    have := k4 j hj
    rw [ho] at this
    have := (Array.all_eq_true_iff_forall_mem.1 this) e he
    simpa [hb] using this
  have g2 : ∀ a' w', After N E fz S w a (gWrites (expandG (permG π gl))) (fun F' S' => ∃ F0, (∀ t, F0.get t = F'.get t) ∧ K F0 S') a' w' → After N E fz S w a (gWrites (expandG (permG π gl))) K a' w' := fun a' w' hA => by
    obtain ⟨F', S', E', fz', ⟨F0, q0, q1⟩, q2, q3, q4, q5, q6, q7⟩ := hA
    exact ⟨F0, S', E', fz', q1, q2, q3, fun t => by rw [q0]; exact q4 t, q5, q6, q7⟩
  have g3 : ∀ j, j < ops.size → ((Array.replicate ops.size false).getD j false = false ↔ ∃ x ∈ numG gl m π, x.1 = j) := fun j hj => by
    refine ⟨fun _ => ?_, fun _ => hrep j⟩
    have h1 : j ∈ (numG gl m π).map (·.1) := by rw [hm]; exact k3 j hj
    obtain ⟨x, h2, h3⟩ := List.mem_map.1 h1
    exact ⟨x, h2, h3⟩
  have g4 : ∀ x ∈ numG gl m π, x.2.2 = gl.getD x.1 default ∧ x.1 < ops.size := fun x hx => by
    obtain ⟨h1, h2⟩ := numG_mem hx
    exact ⟨h1, k2 _ h2⟩
  exact wpIn_region_any hf (any_order hc g1 hWr (fun F1 F2 S1 he ⟨F0, h1, h2⟩ => ⟨F0, fun t => (h1 t).trans (he t), h2⟩) (fun a' w' hA => ⟨rfl, g2 a' w' hA⟩) ops.size (numG gl m π) _ a _ E fz S F (by simp) (fun j o _ hj => by rw [hrep] at hj; cases hj) g3 (allPairs_iff k5) g4 (by rw [hm]; exact hnd) hlen2 hv hx' st' (RelF.mono st hx' hF) hN rfl (fun _ _ => rfl))
end
end Go.Vc
end

/-
  Control: sequences, branches, blocks, loops; a whole function.
-/
section
set_option linter.unusedVariables false
set_option linter.unusedSimpArgs false
namespace Go.Vc

def writes : SCode → List Nat
  | .skip => []
  | .ops l _ _ => gWrites l
  | .seq a b => writes a ++ writes b
  | .join _ _ _ a b => writes a ++ writes b
  | .cond _ a b => writes a ++ writes b
  | .block _ a => writes a
  | .loop _ _ _ a => writes a
  | .exit _ => []
  | .ret => []

def apart (keep W : List Nat) : Bool := keep.all fun t => !W.contains t

/-- Where the code does not come. -/
def badC : SCode := .ops [⟨none, .bad, none, false, []⟩] none []

def comp (P : Program) (N : Nat) : Code → SCode → Option SCode
  | .skip, _ => some .skip
  | .region _ ops false, .ops l none keep => (match cOps P N ops ops.toList l with | some gl => some (.ops gl none keep) | none => none)
  | .region _ ops true, .ops l (some d) keep => (match cOps P N ops ops.toList (unperm d.2.2 (realG l)) with | some gl => if drawOk ops d.1 d.2.2 gl && P.follows .mixedOrders then some (.ops (expandG (permG d.2.2 gl)) (some d) keep) else none | none => none)
  | .seq a b, .seq x y => (match comp P N a x, comp P N b y with | some x, some y => some (.seq x y) | _, _ => none)
  | .seq a b, .join keep W n x y => (match comp P N a x, comp P N b y with | some x, some y => if apart keep (writes x) then some (.join keep W n x y) else none | _, _ => none)
  | .cond c a b, .cond _ x y => (match cRand c, comp P N a x, comp P N b y with | some c, some x, some y => some (.cond c x y) | _, _, _ => none)
  | .block id a, .block _ x => (match comp P N a x with | some x => some (.block id x) | none => none)
  | .loop a, .loop keep W n x => (match comp P N a x with | some x => if apart keep (writes x) then some (.loop keep W n x) else none | none => none)
  | .exit id, _ => some (.exit id)
  | .ret, _ => some .ret
  | .rangeFunc .., _ => some badC
  | .scope _, _ => some badC
  | .label _, _ => some badC
  | .goto _, _ => some badC
  | .refuse _, _ => some badC
  | _, _ => none

def toExit : SExit → Exit
  | .normal => .normal
  | .exit id => .exit id
  | .ret => .ret

/-- The post of a piece of code: each way out, with what it leaves. -/
def Lift (N : Nat) (E : Env) (fz : Nat → Prop) (S : Store) (w : World) (a : Act) (W : List Nat) (Q : SExit → Frame → Store → Prop) : Exit → Act → World → Prop
  | .normal, a', w' => After N E fz S w a W (Q .normal) a' w'
  | .exit id, a', w' => After N E fz S w a W (Q (.exit id)) a' w'
  | .ret, a', w' => After N E fz S w a W (Q .ret) a' w'
  | _, _, _ => False

section
variable {P : Program} {N : Nat}

theorem After.mono {E : Env} {fz : Nat → Prop} {S : Store} {w : World} {a : Act} {W W' : List Nat} {K K' : Frame → Store → Prop} {a' : Act} {w' : World} (h : After N E fz S w a W K a' w') (hW : ∀ t, t ∈ W → t ∈ W') (hK : ∀ F S, K F S → K' F S) : After N E fz S w a W' K' a' w' := by
  obtain ⟨F', S', E', fz', q1, q2, q3, q4, q5, q6, q7⟩ := h
  exact ⟨F', S', E', fz', hK _ _ q1, q2, q3, q4, q5, q6, fun t ht => q7 t fun h => ht (hW t h)⟩

theorem After.trans {E E1 : Env} {fz fz1 : Nat → Prop} {S S1 : Store} {w w1 : World} {a a1 : Act} {W W1 W2 : List Nat} {K : Frame → Store → Prop} {a' : Act} {w' : World} (hx : Ext E fz S w E1 fz1 S1 w1) (hd : a1.defers = a.defers) (ht : ∀ t, t ∉ W1 → a1.tmps[t]? = a.tmps[t]?)
    (h : After N E1 fz1 S1 w1 a1 W2 K a' w') (h1 : ∀ t, t ∈ W1 → t ∈ W) (h2 : ∀ t, t ∈ W2 → t ∈ W) : After N E fz S w a W K a' w' := by
  obtain ⟨F', S', E', fz', q1, q2, q3, q4, q5, q6, q7⟩ := h
  refine ⟨F', S', E', fz', q1, hx.trans q2, q3, q4, q5, by rw [q6, hd], fun t hn => ?_⟩
  rw [q7 t (fun h => hn (h2 t h)), ht t (fun h => hn (h1 t h))]

theorem onlyK_iff {keep : List Nat} {F : Frame} {K : Frame → Prop} : onlyK keep F K ↔ K (keep.map fun t => (t, F.get t)) := by
  induction keep generalizing K with
  | nil => exact Iff.rfl
  | cons t keep ih => simp only [onlyK, getK_iff, ih, List.map_cons]
theorem getsK_iff {W : List Nat} {F : Frame} {K : List AVal → Prop} : getsK W F K ↔ K (W.map F.get) := by
  induction W generalizing K with
  | nil => exact Iff.rfl
  | cons t W ih => simp only [getsK, getK_iff, ih, List.map_cons]

def fit : Nat → Store → Store
  | 0, _ => []
  | n + 1, [] => .dead :: fit n []
  | n + 1, o :: S => o :: fit n S
theorem fitK_iff {n : Nat} {S : Store} {K : Store → Prop} : fitK n S K ↔ K (fit n S) := by
  induction n generalizing S K with
  | zero => simp [fitK, fit]
  | succ n ih => cases S <;> simp [fitK, fit, ih]
theorem fit_length : ∀ (n : Nat) (S : Store), (fit n S).length = n
  | 0, _ => rfl
  | n + 1, [] => by simp [fit, fit_length n]
  | n + 1, o :: S => by simp [fit, fit_length n]
theorem fit_get : ∀ (n : Nat) (S : Store) (l : Nat) (o : Ob), (fit n S)[l]? = some o → o = .dead ∨ S[l]? = some o
  | 0, _, l, o, h => by simp [fit] at h
  | n + 1, [], l, o, h => by
    cases l with
    | zero => simp [fit] at h; exact .inl h.symm
    | succ l => simp [fit] at h; rcases fit_get n [] l o h with h | h <;> first | exact .inl h | simp at h
  | n + 1, x :: S, l, o, h => by
    cases l with
    | zero => simp [fit] at h; exact .inr (by simp [h])
    | succ l => simp [fit] at h; simpa using fit_get n S l o h

/-- Objects may be let go. -/
theorem St.sub {E : Env} {fz : Nat → Prop} {S S' : Store} {w : World} (st : St E fz S w) (h : ∀ (l : Nat) o, S'[l]? = some o → o = .dead ∨ S[l]? = some o) : St E fz S' w ∧ Ext E fz S w E fz S' w := by
  have own : ∀ {l b : Nat}, OwnAt E S' l b → OwnAt E S l b := fun {l b} ⟨o, h1, h2⟩ => by
    rcases h l o h1 with rfl | h3
    · simp [obBlock] at h2
    · exact ⟨o, h3, h2⟩
  refine ⟨⟨fun l o hl => ?_, fun l l' b h1 h2 => st.sep l l' b (own h1) (own h2), st.fzlt, st.fresh⟩, ⟨fun _ _ h => h, fun _ h => h, fun _ h => .inl h, fun _ _ _ => rfl, fun b ⟨l, h⟩ => .inl ⟨l, own h⟩, Nat.le_refl _, rfl, rfl, (Tp.of rfl (Nat.le_refl _))⟩⟩
  rcases h l o hl with rfl | h3
  · trivial
  · exact st.ok l o h3

theorem zipF_get : ∀ (W : List Nat) (xs : List AVal) (F : Frame) (t : Nat), (∃ i : Nat, W[i]? = some t ∧ xs[i]? = some ((zipF W xs F).get t)) ∨ (zipF W xs F).get t = F.get t
  | [], xs, F, t => by cases xs <;> simp [zipF]
  | u :: W, [], F, t => by simp [zipF]
  | u :: W, x :: xs, F, t => by
    simp only [zipF, Frame.get]
    cases h : Nat.beq u t with
    | true =>
      have e : u = t := Nat.eq_of_beq_eq_true h
      exact .inl ⟨0, by simp [e], by simp⟩
    | false =>
      rcases zipF_get W xs F t with ⟨i, h1, h2⟩ | h1
      · exact .inl ⟨i + 1, by simpa using h1, by simpa using h2⟩
      · exact .inr h1

theorem keepF_get (keep : List Nat) (F : Frame) (t : Nat) : Frame.get (keep.map fun t => (t, F.get t)) t = F.get t ∧ t ∈ keep ∨ Frame.get (keep.map fun t => (t, F.get t)) t = .junk := by
  induction keep with
  | nil => exact .inr rfl
  | cons u keep ih =>
    simp only [List.map_cons, Frame.get]
    cases h : Nat.beq u t with
    | true =>
      have e : u = t := Nat.eq_of_beq_eq_true h
      subst e
      exact .inl ⟨rfl, by simp⟩
    | false =>
      rcases ih with ⟨h1, h2⟩ | h1
      · exact .inl ⟨h1, by simp [h2]⟩
      · exact .inr h1

theorem allA_iff {n : Nat} {f : List AVal → Prop} : allA n f ↔ ∀ xs : List AVal, xs.length = n → f xs := by
  induction n generalizing f with
  | zero => simp [allA]
  | succ n ih =>
    simp only [allA, ih]
    constructor
    · intro h xs hx
      cases xs with
      | nil => simp at hx
      | cons x xs => exact h x xs (by simpa using hx)
    · intro h x xs hx
      exact h (x :: xs) (by simp [hx])
theorem allO_iff {n : Nat} {f : Store → Prop} : allO n f ↔ ∀ xs : Store, xs.length = n → f xs := by
  induction n generalizing f with
  | zero => simp [allO]
  | succ n ih =>
    simp only [allO, ih]
    constructor
    · intro h xs hx
      cases xs with
      | nil => simp at hx
      | cons x xs => exact h x xs (by simpa using hx)
    · intro h x xs hx
      exact h (x :: xs) (by simp [hx])

theorem apart_spec {keep W : List Nat} (h : apart keep W = true) {t : Nat} (ht : t ∈ keep) : t ∉ W := by
  have := List.all_eq_true.1 h t ht
  simpa using this

/-- The frame that is taken up again: what was kept, and the slots that were written. -/
theorem relF_zip {E E' : Env} {fz fz' : Nat → Prop} {S S' : Store} {w w' : World} {F F' : Frame} {a a' : Act} {keep W : List Nat} {Wr : List Nat} (st : St E fz S w) (hx : Ext E fz S w E' fz' S' w') (hF : RelF E fz w F a.tmps) (hF' : RelF E' fz' w' F' a'.tmps)
    (hu : ∀ t, t ∉ Wr → a'.tmps[t]? = a.tmps[t]?) (hk : apart keep Wr = true) : RelF E' fz' w' (zipF W (W.map F'.get) (keep.map fun t => (t, F.get t))) a'.tmps := by
  intro t
  rcases zipF_get W (W.map F'.get) (keep.map fun t => (t, F.get t)) t with ⟨i, h1, h2⟩ | h1
  · rw [List.getElem?_map, h1] at h2
    simp at h2
    rw [← h2]
    exact hF' t
  · rw [h1]
    rcases keepF_get keep F t with ⟨h2, h3⟩ | h2
    · rw [h2, getD_of (hu t (apart_spec hk h3))]
      exact st.rel hx (hF t)
    · rw [h2]; simp [Rel]

theorem lift_wp {E E1 : Env} {fz fz1 : Nat → Prop} {S S1 : Store} {w w1 : World} {a a1 : Act} {W W1 W2 : List Nat} {Q : SExit → Frame → Store → Prop} {e : Exit} {a' : Act} {w' : World} (hx : Ext E fz S w E1 fz1 S1 w1) (hd : a1.defers = a.defers) (ht : ∀ t, t ∉ W1 → a1.tmps[t]? = a.tmps[t]?) (h1 : ∀ t, t ∈ W1 → t ∈ W) (h2 : ∀ t, t ∈ W2 → t ∈ W)
    (h : Lift N E1 fz1 S1 w1 a1 W2 Q e a' w') : Lift N E fz S w a W Q e a' w' := by
  cases e <;> simp only [Lift] at h ⊢ <;> exact h.trans hx hd ht h1 h2


/-- A region whose order is open: what its conditions give (proved in the file that defines 'drawOk'). -/
def DrawSound (P : Program) (N : Nat) : Prop := ∀ (rr : Option Nat) (id : Nat) (ops : Array Oper) (hint gl : List GOp) (m : Nat) (π : List Nat), cOps P N ops ops.toList hint = some gl → drawOk ops m π gl = true → P.follows .mixedOrders = true →
  ∀ {K : Frame → Store → Prop} {E : Env} {fz : Nat → Prop} {S : Store} {w : World} {F : Frame} {a : Act}, St E fz S w → RelF E fz w F a.tmps → a.tmps.size = N → vcOpsD P K m (expandG (permG π gl)) F S →
    (Code.region id ops true).wpIn (wf rr) 0 P (fun e a' w' => e = .normal ∧ After N E fz S w a (gWrites (expandG (permG π gl))) K a' w') a w

theorem own_deads {E : Env} {S : Store} {r b : Nat} : Own E (S ++ List.replicate r .dead) b ↔ Own E S b := by
  constructor
  · rintro ⟨l, o, h1, h2⟩
    rcases Nat.lt_or_ge l S.length with h | h
    · rw [List.getElem?_append_left h] at h1; exact ⟨l, o, h1, h2⟩
    · rw [List.getElem?_append_right h, List.getElem?_replicate] at h1
      split at h1
      · cases h1; simp [obBlock] at h2
      · cases h1
  · rintro ⟨l, o, h1, h2⟩
    exact ⟨l, o, by rw [List.getElem?_append_left (List.getElem?_eq_some_iff.1 h1).1]; exact h1, h2⟩
theorem St.deads {E : Env} {fz : Nat → Prop} {S : Store} {w : World} (st : St E fz S w) (r : Nat) : St E fz (S ++ List.replicate r .dead) w := by
  have back : ∀ {l : Nat} {o : Ob}, (S ++ List.replicate r Ob.dead)[l]? = some o → S[l]? = some o ∨ o = .dead := fun {l o} h1 => by
    rcases Nat.lt_or_ge l S.length with h | h
    · rw [List.getElem?_append_left h] at h1; exact .inl h1
    · rw [List.getElem?_append_right h, List.getElem?_replicate] at h1
      split at h1
      · cases h1; exact .inr rfl
      · cases h1
  refine ⟨fun l o h => ?_, fun l l' b ⟨o, h1, h2⟩ ⟨o', h1', h2'⟩ => ?_, st.fzlt, st.fresh⟩
  · rcases back h with h | rfl
    · exact st.ok l o h
    · trivial
  · rcases back h1 with h | rfl
    · rcases back h1' with h' | rfl
      · exact st.sep l l' b ⟨o, h, h2⟩ ⟨o', h', h2'⟩
      · simp [obBlock] at h2'
    · simp [obBlock] at h2
theorem Ext.deads {E E' : Env} {fz fz' : Nat → Prop} {S S' : Store} {w w' : World} {r : Nat} (h : Ext E fz (S ++ List.replicate r .dead) w E' fz' S' w') : Ext E fz S w E' fz' S' w' :=
  ⟨h.env, h.frz, fun b hb => (h.fznew b hb).imp id (Or.imp own_deads.1 id), fun b hb hn => h.keep b hb fun q => hn (own_deads.1 q), fun b hb => (h.own b hb).imp own_deads.1 id, h.size, h.os, h.output, h.tape⟩

theorem code_sound {rr : Option Nat} (hD : DrawSound P N) : ∀ (c : Code) (hint sc : SCode), comp P N c hint = some sc → ∀ {Q : SExit → Frame → Store → Prop} {E : Env} {fz : Nat → Prop} {S : Store} {w : World} {F : Frame} {a : Act},
    St E fz S w → RelF E fz w F a.tmps → a.tmps.size = N → vc P sc Q F S → c.wpIn (wf rr) 0 P (Lift N E fz S w a (writes sc) Q) a w
  | .skip, hint, sc, hc, Q, E, fz, S, w, F, a, st, hF, hN, h => by
    simp only [comp] at hc
    cases hc
    exact wpIn_skip ⟨F, S, E, fz, h, .refl, st, hF, hN, rfl, fun _ _ => rfl⟩
  | .exit id, hint, sc, hc, Q, E, fz, S, w, F, a, st, hF, hN, h => by
    simp only [comp] at hc
    cases hc
    exact wpIn_exit ⟨F, S, E, fz, h, .refl, st, hF, hN, rfl, fun _ _ => rfl⟩
  | .ret, hint, sc, hc, Q, E, fz, S, w, F, a, st, hF, hN, h => by
    simp only [comp] at hc
    cases hc
    exact wpIn_ret ⟨F, S, E, fz, h, .refl, st, hF, hN, rfl, fun _ _ => rfl⟩
  | .region id ops draw, hint, sc, hc, Q, E, fz, S, w, F, a, st, hF, hN, h => by
    cases draw
    · cases hint <;> (try simp only [comp] at hc) <;> first | (cases hc; done) | skip
      rename_i l d keep
      cases d <;> (try simp only [comp] at hc) <;> first | (cases hc; done) | skip
      split at hc <;> cases hc
      rename_i gl hgl
      simp only [vc] at h
      refine wpIn_region ?_
      have := ops_sound (rr := rr) (Q := Lift N E fz S w a (writes (.ops gl none keep)) Q) ops.toList l gl 0 (fun j => by simp) hgl st hF hN h (fun a' w' hA => ?_)
      · simpa [List.range_eq_range'] using this
      · obtain ⟨F', S', E', fz', q1, q2, q3, q4, q5, q6, q7⟩ := hA
        rw [onlyK_iff] at q1
        refine ⟨_, S', E', fz', q1, q2, q3, fun t => ?_, q5, q6, q7⟩
        rcases keepF_get keep F' t with ⟨h1, _⟩ | h1
        · rw [h1]; exact q4 t
        · rw [h1]; simp [Rel]
    · cases hint <;> (try simp only [comp] at hc) <;> first | (cases hc; done) | skip
      rename_i l d keep
      cases d <;> (try simp only [comp] at hc) <;> first | (cases hc; done) | skip
      split at hc
      · rename_i gl hgl
        split at hc
        · rename_i hok
          cases hc
          simp only [Bool.and_eq_true] at hok
          simp only [vc] at h
          refine wpIn_mono (hD rr id ops _ gl _ _ hgl hok.1 hok.2 (st.deads _) hF hN h) ?_
          rintro e a' w' ⟨rfl, hA⟩
          obtain ⟨F', S', E', fz', q1, q2, q3, q4, q5, q6, q7⟩ := hA
          rw [onlyK_iff] at q1
          refine ⟨_, S', E', fz', q1, q2.deads, q3, fun t => ?_, q5, q6, q7⟩
          rcases keepF_get keep F' t with ⟨h1, _⟩ | h1
          · rw [h1]; exact q4 t
          · rw [h1]; simp [Rel]
        · cases hc
      · cases hc
  | .cond c x y, hint, sc, hc, Q, E, fz, S, w, F, a, st, hF, hN, h => by
    cases hint <;> simp only [comp] at hc <;> first | (cases hc; done) | skip
    split at hc <;> cases hc
    rename_i r sx sy hr hx hy
    have hrel := eval_rel hF hr
    simp only [vc, rdK_iff] at h
    have tr : vc P sx Q F S → a.eval c = .bool true → (Code.cond c x y).wpIn (wf rr) 0 P (Lift N E fz S w a (writes (.cond r sx sy)) Q) a w := fun hv he =>
      wpIn_cond_true he (wpIn_mono (code_sound hD x _ sx hx st hF hN hv) fun e a' w' hl => lift_wp .refl rfl (W1 := []) (fun _ _ => rfl) (by simp) (fun t ht => by simp [writes, ht]) hl)
    have fl : vc P sy Q F S → a.eval c = .bool false → (Code.cond c x y).wpIn (wf rr) 0 P (Lift N E fz S w a (writes (.cond r sx sy)) Q) a w := fun hv he =>
      wpIn_cond_false he (wpIn_mono (code_sound hD y _ sy hy st hF hN hv) fun e a' w' hl => lift_wp .refl rfl (W1 := []) (fun _ _ => rfl) (by simp) (fun t ht => by simp [writes, ht]) hl)
    cases hC : rd F r <;> rw [hC] at h hrel <;> simp only [Rel] at h hrel
    · exact tr h hrel
    · exact fl h hrel
    · rename_i b
      cases b
      · exact fl (h.2 rfl) hrel
      · exact tr (h.1 rfl) hrel
  | .seq x y, hint, sc, hc, Q, E, fz, S, w, F, a, st, hF, hN, h => by
    cases hint <;> simp only [comp] at hc <;> first | (cases hc; done) | skip
    · split at hc <;> cases hc
      rename_i sx sy hx hy
      simp only [vc] at h
      refine wpIn_seq (wpIn_mono (code_sound hD x _ sx hx st hF hN h) fun e a1 w1 hl => ?_)
      cases e <;> simp only [Lift] at hl
      · obtain ⟨F1, S1, E1, fz1, q1, q2, q3, q4, q5, q6, q7⟩ := hl
        exact wpIn_mono (code_sound hD y _ sy hy q3 q4 q5 q1) fun e a' w' hl2 => lift_wp q2 q6 q7 (fun t ht => by simp [writes, ht]) (fun t ht => by simp [writes, ht]) hl2
      · exact hl.mono (fun t ht => by simp [writes, ht]) fun _ _ q => q
      · exact hl.mono (fun t ht => by simp [writes, ht]) fun _ _ q => q
    · rename_i keep W n _ _
      split at hc
      · rename_i sx sy hx hy
        split at hc
        · rename_i hap
          cases hc
          simp only [vc] at h
          have h' := h (fun xs os => vc P sy Q (zipF W xs (keep.map fun t => (t, F.get t))) os) (by
            rw [onlyK_iff, allA_iff]
            intro xs _ os q
            exact q)
          refine wpIn_seq (wpIn_mono (code_sound hD x _ sx hx st hF hN h') fun e a1 w1 hl => ?_)
          cases e <;> simp only [Lift] at hl
          · obtain ⟨F1, S1, E1, fz1, q1, q2, q3, q4, q5, q6, q7⟩ := hl
            simp only [SExit.onNormal, getsK_iff] at q1
            have hz := relF_zip (W := W) st q2 hF q4 q7 hap
            exact wpIn_mono (code_sound hD y _ sy hy q3 hz q5 q1) fun e a' w' hl2 => lift_wp q2 q6 q7 (fun t ht => by simp [writes, ht]) (fun t ht => by simp [writes, ht]) hl2
          · exact hl.mono (fun t ht => by simp [writes, ht]) fun _ _ q => q
          · exact hl.mono (fun t ht => by simp [writes, ht]) fun _ _ q => q
        · cases hc
      · cases hc
  | .block id x, hint, sc, hc, Q, E, fz, S, w, F, a, st, hF, hN, h => by
    cases hint <;> simp only [comp] at hc <;> first | (cases hc; done) | skip
    split at hc <;> cases hc
    rename_i sx hx
    simp only [vc] at h
    refine wpIn_block (wpIn_mono (code_sound hD x _ sx hx st hF hN h) fun e a1 w1 hl => ?_)
    cases e <;> simp only [Lift] at hl
    · exact hl.mono (fun t ht => ht) fun _ _ q => q
    · rename_i id'
      simp only [Exit.inBlock]
      by_cases e : id' = id
      · subst e
        rw [if_pos rfl]
        refine hl.mono (fun t ht => ht) fun _ _ q => ?_
        simpa [SExit.onBlock, Nat.beq_refl] using q
      · rw [if_neg e]
        refine hl.mono (fun t ht => ht) fun _ _ q => ?_
        have : Nat.beq id' id = false := by
          cases hb : Nat.beq id' id with
          | false => rfl
          | true => exact (e (Nat.eq_of_beq_eq_true hb)).elim
        simpa [SExit.onBlock, this] using q
    · exact hl.mono (fun t ht => ht) fun _ _ q => q
  | .loop x, hint, sc, hc, Q, E, fz, S, w, F, a, st, hF, hN, h => by
    cases hint <;> simp only [comp] at hc <;> first | (cases hc; done) | skip
    rename_i keep W n _
    split at hc
    · rename_i sx hx
      split at hc
      · rename_i hap
        cases hc
        simp only [vc] at h
        obtain ⟨I, h0, hr⟩ := h
        rw [getsK_iff] at h0
        obtain ⟨k0, h0⟩ := h0
        rw [onlyK_iff, allA_iff] at hr
        refine wpIn_loop_ghost (fun k a1 w1 => ∃ xs os E1 fz1, xs.length = W.length ∧ I k xs os ∧ Ext E fz S w E1 fz1 os w1 ∧ St E1 fz1 os w1 ∧ RelF E1 fz1 w1 (zipF W xs (keep.map fun t => (t, F.get t))) a1.tmps ∧ a1.tmps.size = N ∧ a1.defers = a.defers ∧
          ∀ t, t ∉ writes sx → a1.tmps[t]? = a.tmps[t]?) k0 ?_ ?_
        · exact ⟨_, S, E, fz, by simp, h0, .refl, st, relF_zip (W := W) st .refl hF hF (fun _ _ => rfl) hap, hN, rfl, fun _ _ => rfl⟩
        · rintro k a1 w1 ⟨xs, os, E1, fz1, l1, hI, p1, p2, p3, p4, p5, p6⟩
          refine wpIn_mono (code_sound hD x _ sx hx p2 p3 p4 (hr xs l1 k os hI)) fun e a2 w2 hl => ?_
          cases e <;> simp only [Lift] at hl
          · obtain ⟨F2, S2, E2, fz2, q1, q2, q3, q4, q5, q6, q7⟩ := hl
            simp only [SExit.onNormal, getsK_iff] at q1
            obtain ⟨k', hk', q1⟩ := q1
            refine ⟨k', hk', _, _, E2, fz2, by simp, q1, p1.trans q2, q3, ?_, q5, by rw [q6, p5], fun t ht => by rw [q7 t ht, p6 t ht]⟩
            exact relF_zip (W := W) st (p1.trans q2) hF q4 (fun t ht => by rw [q7 t ht, p6 t ht]) hap
          · exact hl.trans p1 p5 p6 (fun t ht => ht) (fun t ht => ht)
          · exact hl.trans p1 p5 p6 (fun t ht => ht) (fun t ht => ht)
      · cases hc
    · cases hc
  | .rangeFunc .., hint, sc, hc, _, _, _, _, _, _, _, _, _, _, h => by simp only [comp] at hc; cases hc; exact h.elim
  | .scope _, hint, sc, hc, _, _, _, _, _, _, _, _, _, _, h => by simp only [comp] at hc; cases hc; exact h.elim
  | .label _, hint, sc, hc, _, _, _, _, _, _, _, _, _, _, h => by simp only [comp] at hc; cases hc; exact h.elim
  | .goto _, hint, sc, hc, _, _, _, _, _, _, _, _, _, _, h => by simp only [comp] at hc; cases hc; exact h.elim
  | .refuse _, hint, sc, hc, _, _, _, _, _, _, _, _, _, _, h => by simp only [comp] at hc; cases hc; exact h.elim
end
end Go.Vc
end

/-
  A whole function: from its conditions to its contract. And how contracts are used.
-/
section
set_option linter.unusedVariables false
set_option linter.unusedSimpArgs false
namespace Go.Vc

def cRes (P : Program) : List ResultVar → Option (List RRes)
  | [] => some []
  | .tmp t :: rs => (match cRes P rs with | some l => some (.tmp t :: l) | none => none)
  | .cell a t :: rs => (match P.info? t, P.underlying t, cRes P rs with
    | some i, some u, some l => if isAggD u then some (.cell a i.size true :: l) else some (.cell a 1 false :: l)
    | _, _, _ => none)

theorem draw_sound (P : Program) (N : Nat) : DrawSound P N := fun _ _ _ _ _ _ _ hc hok hf _ _ _ _ _ _ _ st hF hN h => draw_region hc hok hf st hF hN h

section
variable {P : Program}

theorem argF_get : ∀ (xs : List AVal) (i t : Nat), (argF i xs).get t = if i ≤ t then (match xs[t - i]? with | some x => x | none => .junk) else .junk
  | [], i, t => by simp [argF, Frame.get]
  | x :: xs, i, t => by
    simp only [argF, Frame.get]
    cases h : Nat.beq i t with
    | true =>
      have e : i = t := Nat.eq_of_beq_eq_true h
      subst e
      simp
    | false =>
      have e : i ≠ t := Nat.ne_of_beq_eq_false h
      simp only [argF_get xs (i + 1) t]
      by_cases hle : i ≤ t
      · rw [if_pos hle, if_pos (by omega), show t - i = (t - (i + 1)) + 1 by omega]
        simp
      · rw [if_neg hle, if_neg (by omega)]

theorem res_rel {E : Env} {fz : Nat → Prop} {S : Store} {w : World} {F : Frame} {tmps : Array Value} (st : St E fz S w) (hF : RelF E fz w F tmps) : ∀ (rs : List ResultVar) (l : List RRes) {K : List AVal → Prop}, cRes P rs = some l → wRes F S K l →
    ∃ (xs : List AVal) (vs : List Value), (rs.mapM fun r => (match r with | .tmp t => pure (tmps.getD t undef) | .cell a t => do loadVar t (← asAddr (tmps.getD a undef)) : Sem Value)).run P w = .ok vs w ∧ RelL E fz w xs vs ∧ K xs
  | [], l, K, hc, h => by
    simp only [cRes] at hc
    cases hc
    exact ⟨[], [], by simp, by simp [RelL], h⟩
  | .tmp t :: rs, l, K, hc, h => by
    simp only [cRes] at hc
    split at hc <;> cases hc
    rename_i l' hl
    simp only [wRes, getK_iff] at h
    obtain ⟨xs, vs, h1, h2, h3⟩ := res_rel st hF rs l' hl h
    refine ⟨_ :: xs, _ :: vs, ?_, by simp only [RelL]; exact ⟨_, _, rfl, hF t, h2⟩, h3⟩
    rw [List.mapM_cons]
    simp only [Sem.run_bind, Sem.run_pure, Result.andThen_ok, h1]
  | .cell ad t :: rs, l, K, hc, h => by
    simp only [cRes] at hc
    split at hc
    · rename_i i u l' hi hu hl
      have main : ∀ {n : Nat} {ag : Bool}, ag = isAggD u → (ag = true → n = i.size) → (ag = false → n = 1) → wRes F S K (.cell ad n ag :: l') → ∃ (xs : List AVal) (vs : List Value), ((ResultVar.cell ad t :: rs).mapM fun r => (match r with | .tmp t => pure (tmps.getD t undef) | .cell a t => do loadVar t (← asAddr (tmps.getD a undef)) : Sem Value)).run P w = .ok vs w ∧ RelL E fz w xs vs ∧ K xs := fun {n ag} hag hn hn1 hw => by
        simp only [wRes, getK_iff] at hw
        obtain ⟨b, off, e, ys, us, g1, g2, g3, g4, g5, hk⟩ := wLoad_rel (P := P) st hw (hF ad)
        have fin : ∀ {x : AVal} {v : Value}, (loadVar t ⟨b, off, none⟩).run P w = .ok v w → Rel E fz w x v → wRes F S (fun xs => K (x :: xs)) l' → ∃ (xs : List AVal) (vs : List Value), ((ResultVar.cell ad t :: rs).mapM fun r => (match r with | .tmp t => pure (tmps.getD t undef) | .cell a t => do loadVar t (← asAddr (tmps.getD a undef)) : Sem Value)).run P w = .ok vs w ∧ RelL E fz w xs vs ∧ K xs := fun {x v} hr hrel hw' => by
          obtain ⟨xs, vs, h1, h2, h3⟩ := res_rel st hF rs l' hl hw'
          refine ⟨x :: xs, v :: vs, ?_, by simp only [RelL]; exact ⟨_, _, rfl, hrel, h2⟩, h3⟩
          rw [List.mapM_cons]
          have ea : (asAddr (tmps.getD ad undef)).run P w = .ok ⟨b, off, none⟩ w := by rw [e]; rfl
          simp only [Sem.run_bind, Sem.run_pure, Result.andThen_ok, ea, hr, h1]
        rcases mkVK_iff.1 hk with ⟨ha, hk2⟩ | ⟨ha, y, rfl, hk2⟩
        · have hn' := hn ha
          subst hn'
          refine fin (v := .agg us.toArray) ?_ ?_ hk2
          · simp [loadVar, run_isAgg hu, ← hag, ha, sizeOf, run_info hi, g4]
          · simp only [Rel]; exact ⟨us, rfl, g2, g3⟩
        · simp only [RelL] at g2
          obtain ⟨v, us', rfl, hv, rfl⟩ := g2
          have hc0 := g5 0 v rfl
          refine fin (v := v) ?_ hv hk2
          simp only [Nat.add_zero] at hc0
          simp [loadVar, run_isAgg hu, ← hag, ha, hc0]
      split at hc <;> cases hc
      · rename_i hag; exact main hag.symm (fun _ => rfl) (fun e => by cases e) h
      · rename_i hag; exact main (by cases hq : isAggD u <;> simp_all) (fun e => by cases e) (fun _ => rfl) h
    · cases hc

theorem fun_sound {f : FuncId} {fn : Func} {c : Code} {hint sc : SCode} {res : List RRes} {args : List AVal} {S : Store} {R : AVal → Store → Prop} (ha : callable P f = true) (hD : DrawSound P fn.ntmps) (hf : P.funcs[f]? = some fn) (hb : fn.body = some c) (hc : comp P fn.ntmps c hint = some sc) (hr : cRes P fn.results.toList = some res)
    (hlen : args.length ≤ fn.ntmps) (h : vcFun P sc res args S R) : ACalls P f args S R := by
  refine ⟨fun E fz w vals st hrel => ?_⟩
  refine .inl ⟨ha, calls_of_wp hf hb ?_⟩
  have hvl := hrel.length
  have hF : RelF E fz w (argF 0 args) (vals.toArray ++ Array.replicate (fn.ntmps - vals.toArray.size) undef) := by
    intro t
    rw [argF_get]
    rw [if_pos (Nat.zero_le _)]
    simp only [Nat.sub_zero]
    cases hx : args[t]? with
    | none => simp [Rel]
    | some x =>
      obtain ⟨v, hv, hr⟩ := hrel.get hx
      have hlt : t < vals.length := (List.getElem?_eq_some_iff.1 hv).1
      have : (vals.toArray ++ Array.replicate (fn.ntmps - vals.toArray.size) undef).getD t undef = v := by
        rw [Array.getD_eq_getD_getElem?, Array.getElem?_append_left (by simpa using hlt)]
        simp [hv]
      rw [this]
      exact hr
  refine wp_mono (wpIn_wide.1 (code_sound (rr := none) hD c hint sc hc st hF (by simp; omega) h)) ?_
  have fin : ∀ {a' : Act} {w' : World} {K : Frame → Store → Prop}, After fn.ntmps E fz S w { tmps := vals.toArray ++ Array.replicate (fn.ntmps - vals.toArray.size) undef, defers := [] } (writes sc) K a' w' → (∀ F' S', K F' S' → wRes F' S' (fun xs => retV xs fun r => R r S') res) →
      a'.defers = [] ∧ ∃ v, (results fn a'.tmps).run P w' = .ok v w' ∧ ∃ r S' v' E' fz', Ending.returned v = .returned v' ∧ Ext E fz S w E' fz' S' w' ∧ St E' fz' S' w' ∧ Rel E' fz' w' r v' ∧ R r S' := fun {a' w' K} hA hK => by
    obtain ⟨F', S', E', fz', q1, q2, q3, q4, q5, q6, q7⟩ := hA
    obtain ⟨xs, vs, g1, g2, g3⟩ := res_rel q3 q4 fn.results.toList res hr (hK _ _ q1)
    refine ⟨q6, ?_⟩
    have hrun : (fn.results.mapM fun r => (match r with | .tmp t => pure (a'.tmps.getD t undef) | .cell a t => do loadVar t (← asAddr (a'.tmps.getD a undef)) : Sem Value)).run P w' = .ok vs.toArray w' := by
      rw [Array.mapM_eq_mapM_toList, Sem.run_map, g1]; rfl
    have hres : (results fn a'.tmps).run P w' = .ok (if h : vs.toArray.size = 1 then vs.toArray[0] else .tuple vs.toArray) w' := by
      unfold results
      rw [Sem.run_bind]
      refine Eq.trans (congrArg (fun r => Result.andThen r _) hrun) ?_
      rfl
    have hl := g2.length
    match xs, vs, hl, g2, g3, hres with
    | [x], [v], _, g2, g3, hres =>
      simp only [RelL] at g2
      obtain ⟨v', us, e, hv, _⟩ := g2
      cases e
      exact ⟨v, hres, x, S', v, E', fz', rfl, q2, q3, hv, g3⟩
    | [], [], _, g2, g3, hres => exact ⟨_, hres, .tup [], S', _, E', fz', rfl, q2, q3, by simp only [Rel]; exact ⟨[], rfl, g2⟩, g3⟩
    | x :: y :: xs, v :: u :: vs, _, g2, g3, hres =>
      refine ⟨.tuple (v :: u :: vs).toArray, ?_, .tup (x :: y :: xs), S', _, E', fz', rfl, q2, q3, by simp only [Rel]; exact ⟨_, rfl, g2⟩, g3⟩
      rw [hres, dif_neg (by simp)]
    | [], _ :: _, hl, _, _, _ => simp at hl
    | _ :: _, [], hl, _, _, _ => simp at hl
    | [_], _ :: _ :: _, hl, _, _, _ => simp at hl
    | _ :: _ :: _, [_], hl, _, _, _ => simp at hl
  intro e a' w' hl
  cases e <;> simp only [Lift] at hl
  · exact fin hl fun _ _ q => q
  · obtain ⟨F', S', E', fz', q1, _⟩ := hl; exact q1.elim
  · exact fin hl fun _ _ q => q

/-! ### Contracts in use -/
theorem ACalls.mono {f : FuncId} {args : List AVal} {S : Store} {R R' : AVal → Store → Prop} (h : ACalls P f args S R) (hr : ∀ r S', R r S' → R' r S') : ACalls P f args S R' :=
  ⟨fun E fz w vals st hrel => (h.out E fz w vals st hrel).mono fun e w' ⟨r, S', v, E', fz', h1, h2, h3, h4, h5⟩ => ⟨r, S', v, E', fz', h1, h2, h3, h4, hr _ _ h5⟩⟩

end
end Go.Vc
end

/-
  Contracts in use: a call with a store around it, what is let go or frozen at the end, owned arguments lent to a reader.
-/
section
set_option linter.unusedVariables false
set_option linter.unusedSimpArgs false
namespace Go.Vc

def LeV (x y : AVal) : Prop := ∀ E fz w v, Rel E fz w x v → Rel E fz w y v
inductive LeL : List AVal → List AVal → Prop
  | nil : LeL [] []
  | cons {x y : AVal} {xs ys : List AVal} (h : LeV x y) (hs : LeL xs ys) : LeL (x :: xs) (y :: ys)
inductive LeO : Ob → Ob → Prop
  | refl (o : Ob) : LeO o o
  | dead (o : Ob) : LeO o .dead
  | row {v k : Nat} {cs ds : List AVal} (h : LeL cs ds) : LeO (.row v k cs) (.row v k ds)
  | trunc {v k : Nat} {cs : List AVal} (n : Nat) : LeO (.row v k cs) (.row v k (cs.take n))

theorem LeV.refl (x : AVal) : LeV x x := fun _ _ _ _ h => h
theorem LeV.sl {l l' v o n : Nat} : LeV (.sl l v o n) (.sl l' v o n) := fun _ _ _ _ h => by simpa [Rel] using h
theorem LeV.ptr {l l' v o : Nat} : LeV (.ptr l v o) (.ptr l' v o) := fun _ _ _ _ h => by simpa [Rel] using h
theorem LeV.map {l l' v : Nat} : LeV (.map l v) (.map l' v) := fun _ _ _ _ h => by simpa [Rel] using h
theorem LeV.junk {x : AVal} : LeV x .junk := fun _ _ _ _ h => by simp [Rel]
theorem LeL.refl : ∀ (xs : List AVal), LeL xs xs
  | [] => .nil
  | x :: xs => .cons (.refl x) (LeL.refl xs)
theorem LeL.rel {xs ys : List AVal} (h : LeL xs ys) {E : Env} {fz : Nat → Prop} {w : World} {vs : List Value} (hr : RelL E fz w xs vs) : RelL E fz w ys vs := by
  induction h generalizing vs with
  | nil => exact hr
  | cons h _ ih =>
    simp only [RelL] at *
    obtain ⟨v, us, rfl, h1, h2⟩ := hr
    exact ⟨v, us, rfl, h _ _ _ _ h1, ih h2⟩
theorem LeL.relC {xs ys : List AVal} (h : LeL xs ys) {E : Env} {fz : Nat → Prop} {w : World} {b off : Nat} (hr : RelC E fz w b off xs) : RelC E fz w b off ys := by
  induction h generalizing off with
  | nil => exact hr
  | cons h _ ih =>
    simp only [RelC] at *
    obtain ⟨⟨c, h1, h2, h3⟩, h4⟩ := hr
    exact ⟨⟨c, h1, h2, h _ _ _ _ h3⟩, ih h4⟩
theorem LeL.length {xs ys : List AVal} (h : LeL xs ys) : ys.length = xs.length := by
  induction h with
  | nil => rfl
  | cons _ _ ih => simp [ih]
theorem LeV.agg {xs ys : List AVal} (h : LeL xs ys) : LeV (.agg xs) (.agg ys) := fun _ _ _ _ hr => by
  simp only [Rel] at *
  obtain ⟨vs, h1, h2, h3⟩ := hr
  exact ⟨vs, h1, h.rel h2, h3⟩
theorem LeV.tup {xs ys : List AVal} (h : LeL xs ys) : LeV (.tup xs) (.tup ys) := fun _ _ _ _ hr => by
  simp only [Rel] at *
  obtain ⟨vs, h1, h2⟩ := hr
  exact ⟨vs, h1, h.rel h2⟩

theorem LeO.ok {o o' : Ob} (h : LeO o o') {E : Env} {fz : Nat → Prop} {w : World} (hr : ObOk E fz w o) : ObOk E fz w o' := by
  cases h with
  | refl => exact hr
  | dead => trivial
  | row h =>
    rcases hr with ⟨h1, h0⟩ | ⟨b, base, cap, arr, T, lo, hi, h1, h2, h3, h4, h5, h6, h7⟩
    · exact .inl ⟨h1, by have := h.length; subst h0; exact List.length_eq_zero_iff.1 this⟩
    · exact .inr ⟨b, base, cap, arr, T, lo, hi, h1, h2, h3, by rw [h.length]; exact h4, h5, h.relC h6, h7⟩
  | trunc n =>
    rcases hr with ⟨h1, h0⟩ | ⟨b, base, cap, arr, T, lo, hi, h1, h2, h3, h4, h5, h6, h7⟩
    · exact .inl ⟨h1, by subst h0; simp⟩
    · exact .inr ⟨b, base, cap, arr, T, lo, hi, h1, h2, h3, by simp only [List.length_take]; omega, h5, h6.take n, h7⟩
theorem LeO.block {o o' : Ob} (h : LeO o o') {E : Env} {b : Nat} (hb : obBlock E o' = some b) : obBlock E o = some b := by
  cases h with
  | refl => exact hb
  | dead => simp [obBlock] at hb
  | row h => exact hb
  | trunc n => exact hb

/-- A choice among the objects: object l of the choice is object φ l, read more loosely. -/
structure Sub (φ : Nat → Nat) (S' S : Store) : Prop where
  inj : ∀ l l', l < S'.length → l' < S'.length → φ l = φ l' → l = l'
  at_ : ∀ (l : Nat) o, S'[l]? = some o → ∃ o0, S[φ l]? = some o0 ∧ LeO o0 o

theorem Sub.own {φ : Nat → Nat} {S' S : Store} (h : Sub φ S' S) {E : Env} {l b : Nat} (ho : OwnAt E S' l b) : OwnAt E S (φ l) b ∧ l < S'.length := by
  obtain ⟨o, h1, h2⟩ := ho
  obtain ⟨o0, g1, g2⟩ := h.at_ l o h1
  exact ⟨⟨o0, g1, g2.block h2⟩, (List.getElem?_eq_some_iff.1 h1).1⟩

theorem Sub.nil {φ : Nat → Nat} {S : Store} : Sub φ [] S := ⟨fun l l' h => absurd h (Nat.not_lt_zero _), fun l o h => by simp at h⟩
theorem Sub.refl {S : Store} : Sub id S S := ⟨fun l l' _ _ h => h, fun l o h => ⟨o, h, .refl o⟩⟩

section
variable {P : Program} {f : FuncId} {args : List AVal}

theorem St.choose {E : Env} {fz : Nat → Prop} {S S' : Store} {w : World} {φ : Nat → Nat} (st : St E fz S w) (h : Sub φ S' S) : St E fz S' w where
  ok l o hl := by
    obtain ⟨o0, g1, g2⟩ := h.at_ l o hl
    exact g2.ok (st.ok _ _ g1)
  sep l l' b h1 h2 := by
    obtain ⟨g1, i1⟩ := h.own h1
    obtain ⟨g2, i2⟩ := h.own h2
    exact h.inj l l' i1 i2 (st.sep _ _ _ g1 g2)
  fzlt := st.fzlt
  fresh := st.fresh

/-- At the end: what is let go, what is numbered anew. -/
theorem ACalls.weak {S : Store} {R K : AVal → Store → Prop} (h : ACalls P f args S R)
    (hK : ∀ r S', R r S' → ∃ r' φ S'', LeV r r' ∧ Sub φ S'' S' ∧ K r' S'') : ACalls P f args S K := by
  refine ⟨fun E fz w vals st hrel => (h.out E fz w vals st hrel).mono fun e w' ⟨r, S', v, E', fz', h1, h2, h3, h4, h5⟩ => ?_⟩
  · obtain ⟨r', φ, S'', g1, g2, g3⟩ := hK r S' h5
    exact ⟨r', S'', v, E', fz', h1, ⟨h2.env, h2.frz, h2.fznew, h2.keep, fun b ⟨l, hb⟩ => h2.own b ⟨_, (g2.own hb).1⟩, h2.size, h2.os, h2.output, h2.tape⟩, h3.choose g2, g1 _ _ _ _ h4, g3⟩

/-- A contract that owns nothing at its start, used where a store stands. -/
theorem ACalls.frame0 {S : Store} {R K : AVal → Store → Prop} (h : ACalls P f args [] R)
    (hK : ∀ r S', R r S' → ∃ r' φ S'', LeV r r' ∧ Sub φ S'' S' ∧ K r' (S ++ S'')) : ACalls P f args S K := by
  refine ⟨fun E fz w vals st hrel => ?_⟩
  have st0 : St E fz [] w := ⟨fun l o h => by simp at h, fun l l' b ⟨o, h, _⟩ => by simp at h, st.fzlt, st.fresh⟩
  have no : ∀ b, ¬ Own E [] b := fun b ⟨l, o, h, _⟩ => by simp at h
  refine (h.out E fz w vals st0 hrel).mono fun e w' ⟨r, S', v, E', fz', h1, h2, h3, h4, h5⟩ => ?_
  obtain ⟨r', φ, S'', g1, g2, g3⟩ := hK r S' h5
  have st2 := h3.choose g2
  have kp : ∀ l b, OwnAt E S l b → w'.heap[b]? = w.heap[b]? ∧ ¬ fz' b := fun l b ho => by
    have hlt := st.own_lt ho
    refine ⟨h2.keep b hlt.1 (no b), fun hf => ?_⟩
    rcases h2.fznew b hf with q | q | q
    · exact hlt.2 q
    · exact no b q
    · omega
  have fk : ∀ b, fz b → w'.heap[b]? = w.heap[b]? := fun b hb => h2.keep b (st.fzlt b hb) (no b)
  have new : ∀ l b, OwnAt E' S'' l b → w.heap.size ≤ b := fun l b ho => by
    rcases h2.own b ⟨_, (g2.own ho).1⟩ with q | q
    · exact absurd q (no b)
    · exact q
  have split : ∀ l b, OwnAt E' (S ++ S'') l b → (l < S.length ∧ OwnAt E S l b) ∨ (S.length ≤ l ∧ OwnAt E' S'' (l - S.length) b) := fun l b ⟨o, q1, q2⟩ => by
    by_cases hl : l < S.length
    · rw [List.getElem?_append_left hl] at q1
      exact .inl ⟨hl, o, q1, by rw [← (st.ok l o q1).block h2.env]; exact q2⟩
    · rw [List.getElem?_append_right (by omega)] at q1
      exact .inr ⟨by omega, o, q1, q2⟩
  refine ⟨r', S ++ S'', v, E', fz', h1, ⟨h2.env, h2.frz, fun b hb => ?_, fun b hb hn => h2.keep b hb (no b), fun b ⟨l, hb⟩ => ?_, h2.size, h2.os, h2.output, h2.tape⟩, ⟨fun l o hl => ?_, fun l l' b q1 q2 => ?_, h3.fzlt, h3.fresh⟩, g1 _ _ _ _ h4, g3⟩
  · rcases h2.fznew b hb with q | q | q
    · exact .inl q
    · exact absurd q (no b)
    · exact .inr (.inr q)
  · rcases split l b hb with ⟨_, q⟩ | ⟨_, q⟩
    · exact .inl ⟨l, q⟩
    · exact .inr (new _ _ q)
  · by_cases hlt : l < S.length
    · rw [List.getElem?_append_left hlt] at hl
      exact (st.ok l o hl).mono h2.env h2.frz fk fun b hb => kp l b ⟨o, hl, hb⟩
    · rw [List.getElem?_append_right (by omega)] at hl
      exact st2.ok _ _ hl
  · rcases split l b q1 with ⟨a1, a2⟩ | ⟨a1, a2⟩ <;> rcases split l' b q2 with ⟨b1, b2⟩ | ⟨b1, b2⟩
    · exact st.sep _ _ _ a2 b2
    · have := (st.own_lt a2).1; have := new _ _ b2; omega
    · have := (st.own_lt b2).1; have := new _ _ a2; omega
    · have := st2.sep _ _ _ a2 b2; omega

/-- A result that hangs on no store, everything else let go. -/
theorem ACalls.use {S : Store} {Q : AVal → Prop} {K : AVal → Store → Prop} (h : ACalls P f args [] (fun r _ => Q r)) (hK : ∀ r, Q r → K r S) : ACalls P f args S K :=
  h.frame0 fun r S' q => ⟨r, id, [], .refl r, .nil, by rw [List.append_nil]; exact hK r q⟩

/-- The same in a region whose order is open: the answer is told ahead. -/
theorem ACalls.det {S : Store} {r0 : AVal} (h : ACalls P f args [] (fun r _ => r = r0)) : ACalls P f args S (fun r S' => r = r0 ∧ S' = S) :=
  h.use fun r e => ⟨e, rfl⟩

/-- One row comes out. -/
theorem ACalls.use1 {S : Store} {n k : Nat} {Q : List AVal → Prop} {K : AVal → Store → Prop} (h : ACalls P f args [] (fun r S' => ∃ v cs, r = .sl 0 v 0 n ∧ S' = [.row v k cs] ∧ Q cs))
    (hK : ∀ v cs, Q cs → K (.sl S.length v 0 n) (S ++ [.row v k cs])) : ACalls P f args S K :=
  h.frame0 fun r S' ⟨v, cs, e1, e2, q⟩ => by
    subst e1; subst e2
    exact ⟨.sl S.length v 0 n, id, _, .sl, .refl, hK v cs q⟩

/-! ### Frozen at the end; lent -/
/-- The value as it reads once what is owned is written no more. -/
def deref (S : Store) : Nat → AVal → AVal
  | 0, x => x
  | n + 1, .sl l v off len => match S[l]? with
    | some (.row v' _ cs) => if v' = v then .ros len ((cs.drop off).map (deref S n)) else .sl l v off len
    | _ => .sl l v off len
  | n + 1, .ptr l v off => match S[l]? with
    | some (.row v' _ cs) => if v' = v then .rop ((cs.drop off).map (deref S n)) else .ptr l v off
    | _ => .ptr l v off
  | n + 1, .agg cs => .agg (cs.map (deref S n))
  | n + 1, .tup cs => .tup (cs.map (deref S n))
  | _ + 1, .nils => .ros 0 []
  | _ + 1, x => x

theorem relL_map {E : Env} {fz fz' : Nat → Prop} {w : World} {g : AVal → AVal} (hg : ∀ x v, Rel E fz w x v → Rel E fz' w (g x) v) : ∀ (xs : List AVal) (vs : List Value), RelL E fz w xs vs → RelL E fz' w (xs.map g) vs
  | [], _, h => by simpa [RelL] using h
  | x :: xs, _, h => by
    simp only [RelL, List.map_cons] at *
    obtain ⟨v, us, h0, h1, h2⟩ := h
    exact ⟨v, us, h0, hg x v h1, relL_map hg xs us h2⟩
theorem relC_map {E : Env} {fz fz' : Nat → Prop} {w : World} {g : AVal → AVal} (hg : ∀ x v, Rel E fz w x v → Rel E fz' w (g x) v) {b : Nat} : ∀ (xs : List AVal) (off : Nat), RelC E fz w b off xs → RelC E fz' w b off (xs.map g)
  | [], _, h => by simp [RelC]
  | x :: xs, off, h => by
    simp only [RelC, List.map_cons] at *
    obtain ⟨⟨c, h1, h2, h3⟩, h4⟩ := h
    exact ⟨⟨c, h1, h2, hg x c h3⟩, relC_map hg xs _ h4⟩

def frozen (E : Env) (fz : Nat → Prop) (S : Store) (b : Nat) : Prop := fz b ∨ Own E S b

theorem deref_rel {E : Env} {fz : Nat → Prop} {S : Store} {w : World} (st : St E fz S w) : ∀ (n : Nat) (x : AVal) (v : Value), Rel E fz w x v → Rel E (frozen E fz S) w (deref S n x) v := by
  have up : ∀ (x : AVal) (v : Value), Rel E fz w x v → Rel E (frozen E fz S) w x v := fun x v h => Rel.mono (fun _ _ h => h) (fun _ h => .inl h) (fun _ _ => rfl) x h
  intro n
  induction n with
  | zero => intro x v h; exact up x v h
  | succ n ih =>
    intro x v h
    have row : ∀ {l ver k : Nat} {cs : List AVal} {b base cap k0 : Nat}, S[l]? = some (.row ver k cs) → E ver = some (.real b base cap k0) → frozen E fz S b ∧ RelC E fz w b base cs := fun {l ver k cs b base cap k0} hl hv => by
      rcases st.ok l _ hl with ⟨h1, _⟩ | ⟨b', base', cap', arr, T, lo, hi, h1, _, _, _, _, h6, _⟩
      · rw [h1] at hv; cases hv
      · rw [h1] at hv; cases hv
        exact ⟨.inr ⟨l, _, hl, by simp [obBlock, h1]⟩, h6⟩
    cases x
    case sl l ver off len =>
      simp only [deref]
      split
      · rename_i v' k cs hl
        split
        · rename_i he; subst he
          simp only [Rel] at h ⊢
          rcases h with ⟨h1, a, h2⟩ | ⟨b, base, cap, k0, c, h1, h2, h3, h4⟩
          · exact .inl ⟨h1, a, 0, h2⟩
          · obtain ⟨g1, g2⟩ := row hl h1
            exact .inr ⟨b, base + off, c, g1, h2, h4, relC_map ih _ _ (g2.drop off)⟩
        · exact up _ _ h
      · exact up _ _ h
    case ptr l ver off =>
      simp only [deref]
      split
      · rename_i v' k cs hl
        split
        · rename_i he; subst he
          simp only [Rel] at h ⊢
          obtain ⟨b, base, cap, k0, h1, h2⟩ := h
          obtain ⟨g1, g2⟩ := row hl h1
          exact ⟨b, base + off, g1, h2, relC_map ih _ _ (g2.drop off)⟩
        · exact up _ _ h
      · exact up _ _ h
    case agg cs =>
      simp only [deref, Rel] at h ⊢
      obtain ⟨vs, h1, h2, h3⟩ := h
      exact ⟨vs, h1, relL_map ih cs vs h2, h3⟩
    case tup cs =>
      simp only [deref, Rel] at h ⊢
      obtain ⟨vs, h1, h2⟩ := h
      exact ⟨vs, h1, relL_map ih cs vs h2⟩
    case nils =>
      simp only [deref, Rel] at h ⊢
      exact .inl ⟨by simp, none, 0, h⟩
    all_goals exact up _ _ h

theorem St.freeze {E : Env} {fz : Nat → Prop} {S : Store} {w : World} (st : St E fz S w) : St E (frozen E fz S) [] w :=
  ⟨fun l o h => by simp at h, fun l l' b ⟨o, h, _⟩ => by simp at h, fun b hb => hb.elim (st.fzlt b) fun ⟨l, h⟩ => (st.own_lt h).1, st.fresh⟩

/-- Nothing of what was made is written from here on: the result reads as plain immutable cells. -/
theorem ACalls.freeze {R : AVal → Store → Prop} (n : Nat) (h : ACalls P f args [] (fun r S' => R (deref S' n r) [])) : ACalls P f args [] R :=
  ⟨fun E fz w vals st hrel => (h.out E fz w vals st hrel).mono fun e w' ⟨r, S', v, E', fz', h1, h2, h3, h4, h5⟩ =>
    ⟨_, [], v, E', frozen E' fz' S', h1, ⟨h2.env, fun b hb => .inl (h2.frz b hb), fun b hb => hb.elim (h2.fznew b) fun ho => .inr (h2.own b ho), h2.keep, fun b ⟨l, o, hl, _⟩ => by simp at hl, h2.size, h2.os, h2.output, h2.tape⟩,
      h3.freeze, deref_rel h3 n r v h4, h5⟩⟩

mutual
/-- Nothing of memory is in it. -/
def solid : AVal → Bool
  | .int _ _ | .str _ | .bool _ | .tt | .ff | .junk | .nilp | .nils | .nilf | .nilm | .nili => true
  | .agg cs => solidL cs
  | .tup cs => solidL cs
  | .ros n cs => Nat.beq n 0
  | _ => false
def solidL : List AVal → Bool
  | [] => true
  | x :: xs => solid x && solidL xs
end

mutual
theorem solid_rel {E E' : Env} {fz fz' : Nat → Prop} {w w' : World} : ∀ (x : AVal) (v : Value), solid x = true → Rel E fz w x v → Rel E' fz' w' x v
  | .agg cs, v, h, hr => by
    simp only [Rel] at *
    obtain ⟨vs, h1, h2, h3⟩ := hr
    exact ⟨vs, h1, solidL_rel cs vs (by simpa [solid] using h) h2, h3⟩
  | .tup cs, v, h, hr => by
    simp only [Rel] at *
    obtain ⟨vs, h1, h2⟩ := hr
    exact ⟨vs, h1, solidL_rel cs vs (by simpa [solid] using h) h2⟩
  | .ros n cs, v, h, hr => by
    have hn : n = 0 := by simpa [solid] using h
    subst hn
    simp only [Rel] at *
    rcases hr with hr | ⟨b, off, c, g1, g2, g3, g4⟩
    · exact .inl hr
    · exact .inl ⟨trivial, _, _, g3⟩
  | .int _ _, _, _, hr => by simpa [Rel] using hr
  | .str _, _, _, hr => by simpa [Rel] using hr
  | .bool _, _, _, hr => by simpa [Rel] using hr
  | .tt, _, _, hr => by simpa [Rel] using hr
  | .ff, _, _, hr => by simpa [Rel] using hr
  | .junk, _, _, hr => by simp [Rel]
  | .nilp, _, _, hr => by simpa [Rel] using hr
  | .nils, _, _, hr => by simpa [Rel] using hr
  | .nilf, _, _, hr => by simpa [Rel] using hr
  | .nilm, _, _, hr => by simpa [Rel] using hr
  | .nili, _, _, hr => by simpa [Rel] using hr
  | .ptr _ _ _, _, h, _ => by simp [solid] at h
  | .rop _, _, h, _ => by simp [solid] at h
  | .sl _ _ _ _, _, h, _ => by simp [solid] at h
  | .fn _ _ _, _, h, _ => by simp [solid] at h
  | .map _ _, _, h, _ => by simp [solid] at h
  | .iface _ _, _, h, _ => by simp [solid] at h
theorem solidL_rel {E E' : Env} {fz fz' : Nat → Prop} {w w' : World} : ∀ (xs : List AVal) (vs : List Value), solidL xs = true → RelL E fz w xs vs → RelL E' fz' w' xs vs
  | [], _, _, hr => by simpa [RelL] using hr
  | x :: xs, _, h, hr => by
    simp only [RelL] at *
    obtain ⟨v, us, h0, h1, h2⟩ := hr
    simp only [solidL, Bool.and_eq_true] at h
    exact ⟨v, us, h0, solid_rel x v h.1 h1, solidL_rel xs us h.2 h2⟩
end

/-- What is owned is lent to a function that only reads; it answers plain data. -/
theorem ACalls.lend {S : Store} {Q : AVal → Prop} {K : AVal → Store → Prop} (n : Nat) (h : ACalls P f (args.map (deref S n)) [] (fun r _ => solid r = true ∧ Q r)) (hK : ∀ r, Q r → K r S) :
    ACalls P f args S K := by
  refine ⟨fun E fz w vals st hrel => ?_⟩
  have no : ∀ b, ¬ Own E [] b := fun b ⟨l, o, h, _⟩ => by simp at h
  refine (h.out E _ w vals st.freeze (relL_map (fun x v => deref_rel st n x v) args vals hrel)).mono fun e w' ⟨r, S', v, E', fz', h1, h2, h3, h4, h5, h6⟩ => ?_
  have hh : ∀ b, b < w.heap.size → w'.heap[b]? = w.heap[b]? := fun b hb => h2.keep b hb (no b)
  have back : ∀ (l b : Nat), OwnAt E' S l b → OwnAt E S l b := fun l b ⟨o, q1, q2⟩ => ⟨o, q1, by rw [← (st.ok l o q1).block h2.env]; exact q2⟩
  have nf : ∀ b, fz b → ¬ Own E S b := fun b hb ⟨l, ho⟩ => (st.own_lt ho).2 hb
  refine ⟨r, S, v, E', fun b => fz' b ∧ ¬ Own E S b, h1, ⟨h2.env, fun b hb => ⟨h2.frz b (.inl hb), nf b hb⟩, fun b ⟨hb, hn⟩ => ?_, fun b hb _ => hh b hb, fun b ⟨l, ho⟩ => .inl ⟨l, back l b ho⟩, h2.size, h2.os, h2.output, h2.tape⟩,
    ⟨fun l o hl => ?_, fun l l' b q1 q2 => st.sep _ _ _ (back _ _ q1) (back _ _ q2), fun b hb => h3.fzlt b hb.1, h3.fresh⟩, solid_rel r v h5 h4, hK r h6⟩
  · rcases h2.fznew b hb with (q | q) | q | q
    · exact .inl q
    · exact absurd q hn
    · exact absurd q (no b)
    · exact .inr (.inr q)
  · refine (st.ok l o hl).mono h2.env (fun b hb => ⟨h2.frz b (.inl hb), nf b hb⟩) (fun b hb => hh b (st.fzlt b hb)) fun b hb => ⟨hh b (st.own_lt ⟨o, hl, hb⟩).1, fun q => q.2 ⟨l, o, hl, hb⟩⟩

end
end Go.Vc
end

/-
  A law's arguments, whatever plain data they are, opened at once; and the law's statement from its contract.
-/
section
set_option linter.unusedVariables false
set_option linter.unusedSimpArgs false
namespace Go.Vc
open Go.ChangeShapes Go.WideShapes Go.ChangeAt Go.RowKit

mutual
inductive Ty where
  | int (k : IntKind)
  | str
  | bool
  | st (fs : Tys)
  | sl (e : Ty)
inductive Tys where
  | nil
  | cons (t : Ty) (ts : Tys)
end

mutual
def T : Ty → Type
  | .int _ => Int
  | .str => List UInt8
  | .bool => Bool
  | .st fs => Ts fs
  | .sl e => List (T e)
def Ts : Tys → Type
  | .nil => Unit
  | .cons t .nil => T t
  | .cons t (.cons u ts) => T t × Ts (.cons u ts)
end

mutual
def szT : Ty → Nat
  | .int _ => 1
  | .str => 1
  | .bool => 1
  | .st fs => szTs fs
  | .sl _ => 1
def szTs : Tys → Nat
  | .nil => 0
  | .cons t ts => szT t + szTs ts
end

mutual
/-- The cells of a value. -/
def encT : (t : Ty) → T t → List AVal
  | .int k, n => [.int k n]
  | .str, s => [.str s]
  | .bool, b => [.bool b]
  | .st fs, x => encTs fs x
  | .sl e, l => [.ros (List.length (α := T e) l) (List.flatMap (β := AVal) (α := T e) (encT e) l)]
def encTs : (ts : Tys) → Ts ts → List AVal
  | .nil, _ => []
  | .cons t .nil, x => encT t x
  | .cons t (.cons u ts), (x, y) => encT t x ++ encTs (.cons u ts) y
end

mutual
def okT : (t : Ty) → T t → Prop
  | .int k, n => LE.le (α := Int) k.min n ∧ LE.le (α := Int) n k.max
  | .str, s => List.length (α := UInt8) s ≤ 140737488351232
  | .bool, _ => True
  | .st fs, x => okTs fs x
  | .sl e, l => List.length (α := T e) l ≤ 140737488351232 ∧ ∀ x : T e, List.Mem x l → okT e x
def okTs : (ts : Tys) → Ts ts → Prop
  | .nil, _ => True
  | .cons t .nil, x => okT t x
  | .cons t (.cons u ts), (x, y) => okT t x ∧ okTs (.cons u ts) y
end

mutual
def wtT : (t : Ty) → T t → Nat
  | .int _, _ => 1
  | .str, s => List.length (α := UInt8) s + 1
  | .bool, _ => 1
  | .st fs, x => wtTs fs x + 1
  | .sl e, l => List.foldr (α := T e) (β := Nat) (fun x n => wtT e x + n) 1 l
def wtTs : (ts : Tys) → Ts ts → Nat
  | .nil, _ => 0
  | .cons t .nil, x => wtT t x
  | .cons t (.cons u ts), (x, y) => wtT t x + wtTs (.cons u ts) y
end

/-- The argument as it is handed: a structure as one value. -/
def encA : (t : Ty) → T t → AVal
  | .st fs, x => .agg (encTs fs x)
  | .int k, n => .int k n
  | .str, s => .str s
  | .bool, b => .bool b
  | .sl e, l => .ros (List.length (α := T e) l) (List.flatMap (β := AVal) (α := T e) (encT e) l)
def encAs : (ts : Tys) → Ts ts → List AVal
  | .nil, _ => []
  | .cons t .nil, x => [encA t x]
  | .cons t (.cons u ts), (x, y) => encA t x :: encAs (.cons u ts) y

/-! ### The types of a program -/
def tyFields (P : Program) (go : TypeId → Option Ty) : Nat → List Field → Option (Tys × Nat)
  | off, [] => some (.nil, off)
  | off, f :: fs => if f.offset = off then (match go f.type with
    | some t => if szT t = P.cellsOf f.type then (match tyFields P go (off + P.cellsOf f.type) fs with | some (ts, n) => some (.cons t ts, n) | none => none) else none
    | none => none) else none
def tyOf (P : Program) : Nat → TypeId → Option Ty
  | 0, _ => none
  | n + 1, t => match P.underlying t with
    | some (.int k) => some (.int k)
    | some .string => some .str
    | some .bool => some .bool
    | some (.slice e) => (match tyOf P n e with | some u => if szT u = P.cellsOf e ∧ 0 < P.cellsOf e ∧ 0 < P.bytesOf e then some (.sl u) else none | none => none)
    | some (.struct fs) => (match tyFields P (tyOf P n) 0 fs.toList with | some (ts, m) => if m = P.cellsOf t then some (.st ts) else none | none => none)
    | _ => none
def tysOf (P : Program) (n : Nat) : List TypeId → Option Tys
  | [] => some .nil
  | t :: ts => match tyOf P n t, tysOf P n ts with | some u, some us => some (.cons u us) | _, _ => none

/-- What a count of values and letters does. -/
structure Bulk {H : Type} (bulk : DataW H → Nat) (all : List (DataW H) → Nat) : Prop where
  int : ∀ k n, 1 ≤ bulk (.lit (.int k n))
  bool : ∀ b, 1 ≤ bulk (.lit (.bool b))
  str : ∀ s, s.length + 1 ≤ bulk (.lit (.string s))
  nil : 1 ≤ bulk .nil
  slice : ∀ es sp, all es + 1 ≤ bulk (.slice es sp)
  agg : ∀ ps, all ps + 1 ≤ bulk (.agg ps)
  none : all [] = 0
  cons : ∀ d r, all (d :: r) = bulk d + all r

section
variable {H : Type} {enc : TypeId × Value → H} {P : Program} {w : World} {base : Nat} {spare : Nat → Bool} {held : Bool} {bulk : DataW H → Nat} {all : List (DataW H) → Nat}

abbrev E0 : Env := fun _ => none
abbrev fz0 (w : World) : Nat → Prop := fun b => b < w.heap.size

/-- What is read of cells of a type. -/
def Reads1 (w : World) (bulk : DataW H → Nat) (t : Ty) (cs : List Value) (d : DataW H) : Prop :=
  ∃ x : T t, RelL E0 (fz0 w) w (encT t x) cs ∧ okT t x ∧ wtT t x ≤ bulk d ∧ ∀ c ∈ cs, c.oneCell' = true

theorem mapM_zip {α β : Type} {g : α → Option β} : ∀ {l : List α} {ys : List β}, l.mapM g = some ys → ∀ (i : Nat) a, l[i]? = some a → ∃ b, g a = some b ∧ ys[i]? = some b
  | [], _, _, i, a, ha => by simp at ha
  | x :: l, ys, h, i, a, ha => by
    cases hx : g x with
    | none => simp [hx] at h
    | some b =>
      cases hl : l.mapM g with
      | none => simp [hx, hl] at h
      | some bs =>
        simp [hx, hl] at h
        subst h
        cases i with
        | zero => simp at ha; subst ha; exact ⟨b, hx, rfl⟩
        | succ i => simp at ha; simpa using mapM_zip hl i a ha

/-- Elements that lie one behind the other. -/
theorem reads_list (hb : Bulk bulk all) {e : Ty} {k : Nat} {b off : Nat} : ∀ (ds : List (DataW H)) (i0 : Nat), (∀ (i : Nat) d, ds[i]? = some d → ∃ cs : List Value, cs.length = k ∧ (∀ j, j < k → w.cell? ⟨b, off + (i0 + i) * k + j, none⟩ = cs[j]?) ∧ Reads1 w bulk e cs d) →
    ∃ l : List (T e), l.length = ds.length ∧ RelC E0 (fz0 w) w b (off + i0 * k) (l.flatMap (encT e)) ∧ (∀ x ∈ l, okT e x) ∧ l.foldr (fun x n => wtT e x + n) 1 ≤ all ds + 1
  | [], i0, _ => ⟨[], rfl, by simp [RelC], by simp, by simp⟩
  | d :: ds, i0, h => by
    obtain ⟨cs, h1, h2, x, h3, h4, h5, h6⟩ := h 0 d rfl
    obtain ⟨l, g1, g2, g3, g4⟩ := reads_list hb ds (i0 + 1) fun i d' hd => by
      have := h (i + 1) d' (by simpa using hd)
      rwa [show i0 + (i + 1) = i0 + 1 + i by omega] at this
    have hlen := h3.length
    refine ⟨x :: l, by simp [g1], ?_, ?_, ?_⟩
    · rw [List.flatMap_cons]
      refine RelC.append (RelC.mk fun i a ha => ?_) ?_
      · obtain ⟨v, q1, q2⟩ := h3.get ha
        have hi : i < k := by
          have := (List.getElem?_eq_some_iff.1 q1).1; omega
        exact ⟨v, by have := h2 i hi; rw [Nat.add_zero] at this; rw [this, q1], h6 v (List.mem_of_getElem? q1), q2⟩
      · rw [show off + i0 * k + (encT e x).length = off + (i0 + 1) * k by rw [← hlen, h1, Nat.add_mul]; omega]
        exact g2
    · intro y hy
      rcases List.mem_cons.1 hy with rfl | hy
      · exact h4
      · exact g3 y hy
    · rw [hb.cons]
      simp only [List.foldr_cons]
      omega

theorem reads_fields {n : Nat} (hb : Bulk bulk all) {go : TypeId → Option Ty} (ih : ∀ (t : TypeId) (u : Ty) (cs : List Value) (d : DataW H) (ps : List MemPlace), go t = some u → (∀ x ∈ d.weights P t, x ≤ reachBytes) → DataW.trod enc P w 0 spare held n t cs = some (d, ps) → Reads1 w bulk u cs d) (cs : List Value) :
    ∀ (fs : List Field) (off : Nat) (ts : Tys) (m : Nat) (xs : List (DataW H × List MemPlace)), tyFields P go off fs = some (ts, m) → m ≤ cs.length → fs.mapM (fun f => DataW.trod enc P w 0 spare held n f.type ((cs.drop f.offset).take (P.cellsOf f.type))) = some xs → (∀ x ∈ DataW.weightsEach P (fs.map (·.type)) (xs.map (·.1)), x ≤ reachBytes) →
    off ≤ m ∧ ∃ x : Ts ts, RelL E0 (fz0 w) w (encTs ts x) ((cs.drop off).take (m - off)) ∧ okTs ts x ∧ wtTs ts x ≤ all (xs.map (·.1)) ∧ ∀ c ∈ (cs.drop off).take (m - off), c.oneCell' = true
  | [], off, ts, m, xs, hc, hm, hx, hR => by
    simp only [tyFields, Option.some.injEq, Prod.mk.injEq] at hc
    obtain ⟨rfl, rfl⟩ := hc
    exact ⟨Nat.le_refl _, (), by simp [encTs, RelL], by simp [okTs], by simp [wtTs], by simp⟩
  | f :: fs, off, ts, m, xs, hc, hm, hx, hR => by
    unfold tyFields at hc
    split at hc
    · rename_i ho
      split at hc
      · rename_i t ht
        split at hc
        · rename_i hsz
          split at hc
          · rename_i ts' m' hr
            cases hc
            rw [List.mapM_cons] at hx
            cases hq : DataW.trod enc P w 0 spare held n f.type ((cs.drop f.offset).take (P.cellsOf f.type)) with
            | none => simp [hq] at hx
            | some y =>
              cases hq2 : fs.mapM (fun f => DataW.trod enc P w 0 spare held n f.type ((cs.drop f.offset).take (P.cellsOf f.type))) with
              | none => simp [hq, hq2] at hx
              | some ys =>
                simp [hq, hq2] at hx
                subst hx
                simp only [List.map_cons, DataW.weightsEach, List.mem_append] at hR
                obtain ⟨i1, x2, r2, o2, w2, c2⟩ := reads_fields hb ih cs fs (off + P.cellsOf f.type) ts' m ys hr hm hq2 (fun x hx => hR x (.inr hx))
                obtain ⟨x1, r1, o1, w1, c1⟩ := ih f.type t _ y.1 y.2 ht (fun x hx => hR x (.inl hx)) hq
                rw [ho] at r1 c1
                have split_ : (cs.drop off).take (m - off) = (cs.drop off).take (P.cellsOf f.type) ++ (cs.drop (off + P.cellsOf f.type)).take (m - (off + P.cellsOf f.type)) := by
                  rw [show m - off = P.cellsOf f.type + (m - (off + P.cellsOf f.type)) by omega, List.take_add, List.drop_drop]
                refine ⟨by omega, ?_⟩
                rw [split_]
                have hone : ∀ c ∈ (cs.drop off).take (P.cellsOf f.type) ++ (cs.drop (off + P.cellsOf f.type)).take (m - (off + P.cellsOf f.type)), c.oneCell' = true := fun c hc' => by
                  rcases List.mem_append.1 hc' with h | h
                  · exact c1 c h
                  · exact c2 c h
                cases ts' with
                | nil =>
                  simp only [encTs, RelL] at r2
                  rw [r2, List.append_nil]
                  exact ⟨x1, r1, o1, by simp only [List.map_cons, hb.cons]; exact Nat.le_trans w1 (Nat.le_add_right _ _), by rw [r2, List.append_nil] at hone; exact hone⟩
                | cons u us =>
                  exact ⟨(x1, x2), r1.append r2, ⟨o1, o2⟩, by simp only [List.map_cons, hb.cons]; exact Nat.add_le_add w1 w2, hone⟩
          · cases hc
        · cases hc
      · cases hc
    · cases hc

theorem reads_cells (hb : Bulk bulk all) : ∀ (fuel n : Nat) (t : TypeId) (u : Ty) (cs : List Value) (d : DataW H) (ps : List MemPlace), tyOf P n t = some u → (∀ x ∈ d.weights P t, x ≤ reachBytes) → DataW.trod enc P w 0 spare held fuel t cs = some (d, ps) → Reads1 w bulk u cs d := by
  intro fuel
  induction fuel with
  | zero => intro n t u cs d ps _ _ h; simp [DataW.trod] at h
  | succ fuel ih =>
    intro n t u cs d ps hu hR h
    cases n with
    | zero => simp [tyOf] at hu
    | succ n =>
      unfold tyOf at hu
      split at hu
      · rename_i k hk
        cases hu
        obtain ⟨x, rfl, h2, h3⟩ := DataW.trod_int hk h
        simp only [Prod.mk.injEq] at h2
        simp only [Lit.wf, Bool.and_eq_true, decide_eq_true_eq] at h3
        exact ⟨x, by simp [encT, RelL, Rel], h3, by rw [h2.1]; exact hb.int _ _, by simp [Value.oneCell']⟩
      · rename_i hk
        cases hu
        obtain ⟨s, rfl, h2, h3⟩ := DataW.trod_string hk h
        simp only [Prod.mk.injEq] at h2
        refine ⟨s.data.toList, by simp [encT, RelL, Rel], ?_, by rw [h2.1]; exact hb.str _, by simp [Value.oneCell']⟩
        show List.length s.data.toList ≤ 140737488351232
        have := hR s.data.toList.length (by rw [h2.1]; simp [DataW.weights])
        exact this
      · rename_i hk
        cases hu
        obtain ⟨x, rfl, h2⟩ := DataW.trod_bool hk h
        simp only [Prod.mk.injEq] at h2
        exact ⟨x, by simp [encT, RelL, Rel], trivial, by rw [h2.1]; exact hb.bool _, by simp [Value.oneCell']⟩
      · rename_i e hk
        split at hu
        · rename_i u' hu'
          split at hu
          · rename_i hsz
            cases hu
            unfold DataW.trod at h
            rw [hk] at h
            split at h <;> try (cases ‹some (TypeDesc.slice e) = some _›; done)
            all_goals try cases ‹some (TypeDesc.slice e) = some _›
            · cases h
              exact ⟨[], by simp [encT, RelL, Rel], ⟨Nat.zero_le _, fun x hx => nomatch hx⟩, hb.nil, by simp [Value.oneCell']⟩
            · rename_i a len cap
              dsimp only at h
              split at h
              · rename_i hcnd
                obtain ⟨_, hlc, hcap⟩ := hcnd
                obtain ⟨elems, hel, h⟩ := Option.bind_eq_some_iff.1 h
                obtain ⟨rest, hre, h⟩ := Option.map_eq_some_iff.1 h
                simp only [Prod.mk.injEq] at h
                obtain ⟨rfl, _⟩ := h
                have hlen : elems.length = len := by have := mapM_some_length hel; simpa using this
                have one : Value.oneCell' (.slice (some a) len cap) = true := by simp [Value.oneCell']
                have e1 := hb.slice (elems.map (·.1)) (rest.map (·.1))
                by_cases h0 : len = 0
                · subst h0
                  refine ⟨[], ?_, ⟨Nat.zero_le _, fun x hx => nomatch hx⟩, ?_, by simpa using one⟩
                  · simp [encT, RelL, Rel]
                  · simp only [wtT, List.foldr_nil]; omega
                have hwt : (elems.length + rest.length) * P.bytesOf e ≤ reachBytes ∧ ∀ y ∈ elems, ∀ x ∈ y.1.weights P e, x ≤ reachBytes := by
                  have all : ∀ {l : List (DataW H × List MemPlace)} {y : DataW H × List MemPlace}, y ∈ l → ∀ x ∈ y.1.weights P e, x ∈ DataW.weightsAll P e (l.map (·.1)) := by
                    intro l
                    induction l with
                    | nil => intro y hy; cases hy
                    | cons z l ih' =>
                      intro y hy x hx
                      simp only [List.map_cons, DataW.weightsAll, List.mem_append]
                      rcases List.mem_cons.1 hy with rfl | hy
                      · exact .inl hx
                      · exact .inr (ih' hy x hx)
                  refine ⟨hR _ (by simp [DataW.weights, hk]), fun y hy x hx => hR x ?_⟩
                  simp only [DataW.weights, hk, List.mem_cons, List.mem_append]
                  exact .inr (.inl (all hy x hx))
                have key : ∀ (i : Nat) d', (elems.map (·.1))[i]? = some d' → ∃ cs : List Value, cs.length = P.cellsOf e ∧ (∀ j, j < P.cellsOf e → w.cell? ((a.add (i * P.cellsOf e)).add j) = cs[j]?) ∧ Reads1 w bulk u' cs d' := fun i d' hd => by
                  rw [List.getElem?_map] at hd
                  cases hq : elems[i]? with
                  | none => simp [hq] at hd
                  | some y =>
                    simp [hq] at hd
                    subst hd
                    have hi : i < len := by have := (List.getElem?_eq_some_iff.1 hq).1; omega
                    obtain ⟨y', q1, q2⟩ := mapM_zip hel i i (by simp [hi])
                    rw [hq] at q2; cases q2
                    cases hcs : w.cells? 0 (a.add (i * P.cellsOf e)) (P.cellsOf e) with
                    | none => simp [hcs] at q1
                    | some cs =>
                      simp only [hcs, Option.bind_some] at q1
                      obtain ⟨_, q3, q4⟩ := World.cells?_some hcs
                      exact ⟨cs, q3, q4, ih n e u' cs y.1 y.2 hu' (hwt.2 y (List.mem_of_getElem? hq)) q1⟩
                obtain ⟨b, off, spot⟩ := a
                have hsp : spot = none ∧ b < w.heap.size := by
                  obtain ⟨cs, k1, k2, _⟩ := key 0 _ (List.getElem?_eq_getElem (by simp; omega))
                  have k3 := k2 0 hsz.2.1
                  rw [List.getElem?_eq_getElem (by omega)] at k3
                  have k4 : spot = none := by simpa [Addr.add] using World.cell?_spot k3
                  refine ⟨k4, ?_⟩
                  rcases Nat.lt_or_ge b w.heap.size with hl | hl
                  · exact hl
                  · simp [World.cell?, Addr.add, Array.getElem?_eq_none hl] at k3
                obtain ⟨rfl, hbl⟩ := hsp
                obtain ⟨l, g1, g2, g3, g4⟩ := reads_list (w := w) hb (e := u') (k := P.cellsOf e) (b := b) (off := off) (elems.map (·.1)) 0 fun i d' hd => by
                  obtain ⟨cs, k1, k2, k3⟩ := key i d' hd
                  refine ⟨cs, k1, fun j hj => ?_, k3⟩
                  rw [← k2 j hj, Nat.zero_add]
                  unfold Addr.add
                  split <;> split <;> simp_all
                rw [List.length_map, hlen] at g1
                refine ⟨l, ?_, ⟨?_, fun x hx => g3 x hx⟩, ?_, by simpa using one⟩
                · simp only [encT, RelL]
                  refine ⟨_, _, rfl, ?_, rfl⟩
                  simp only [Rel]
                  exact .inr ⟨b, off, cap, hbl, by rw [g1]; exact hlc, by rw [g1], by simpa using g2⟩
                · show List.length l ≤ 140737488351232
                  rw [g1, ← hlen]
                  have q1 := hwt.1
                  have q2 : (elems.length + rest.length) * 1 ≤ (elems.length + rest.length) * P.bytesOf e := Nat.mul_le_mul_left _ hsz.2.2
                  have q3 : reachBytes = 140737488351232 := rfl
                  omega
                · simp only [wtT]; omega
              · cases h
            all_goals (first | cases h | skip)
          · cases hu
        · cases hu
      · rename_i fs hk
        split at hu
        · rename_i ts m hf
          split at hu
          · rename_i hm
            cases hu
            simp only [DataW.trod, hk] at h
            split at h
            · rename_i hlen
              obtain ⟨xs, hx, h⟩ := Option.map_eq_some_iff.1 h
              simp only [Prod.mk.injEq] at h
              obtain ⟨rfl, _⟩ := h
              obtain ⟨_, x, r, o, wt, c1⟩ := reads_fields hb (fun t u cs d ps => ih n t u cs d ps) cs fs.toList 0 ts m xs hf (by omega) hx (by simpa [DataW.weights, hk] using hR)
              rw [List.drop_zero, Nat.sub_zero, List.take_of_length_le (by omega)] at r c1
              exact ⟨x, r, o, Nat.le_trans (Nat.add_le_add_right wt 1) (hb.agg _), c1⟩
            · cases h
          · cases hu
        · cases hu
      · cases hu
end
end Go.Vc
end

/-
  A law's statement from its contract: the arguments opened, the answer given, what was handed in left as it was.
-/
section
set_option linter.unusedVariables false
set_option linter.unusedSimpArgs false
namespace Go.Vc
open Go.ChangeShapes Go.WideShapes Go.ChangeAt Go.RowKit

section
variable {H : Type} {enc : TypeId × Value → H} {P : Program} {w : World} {bulk : DataW H → Nat} {all : List (DataW H) → Nat}

theorem reads_arg (hb : Bulk bulk all) {n : Nat} {t : TypeId} {u : Ty} {v : Value} {d : DataW H} {ps : List MemPlace} {spare : Nat → Bool} {held : Bool} (hu : tyOf P n t = some u) (hv : Value.okWide P w .any 0 t v)
    (hR : ∀ x ∈ d.weights P t, x ≤ reachBytes) (h : DataW.Trod enc P w 0 spare held t v d ps) : ∃ x : T u, Rel E0 (fz0 w) w (encA u x) v ∧ okT u x ∧ wtT u x ≤ bulk d := by
  obtain ⟨fuel, hf⟩ := h
  obtain ⟨x, h1, h2, h3, h4⟩ := reads_cells hb fuel n t u _ d ps hu hR hf
  refine ⟨x, ?_, h2, h3⟩
  have one : (∀ cs, v ≠ .agg cs) → v.cells.toList = [v] := fun hn => by
    cases v <;> first | rfl | exact absurd rfl (hn _)
  cases n with
  | zero => simp [tyOf] at hu
  | succ n =>
    unfold tyOf at hu
    split at hu
    · rename_i k hk
      cases hu
      obtain ⟨m, rfl⟩ := okWide_int hk hv
      simpa [encT, encA, RelL, Value.cells] using h1
    · rename_i hk
      cases hu
      have hn : ∀ cs, v ≠ .agg cs := fun cs hc => by subst hc; simp [Value.okWide, hk, Cell.okWide, Cell.ok] at hv
      rw [one hn] at h1
      simpa [encT, encA, RelL] using h1
    · rename_i hk
      cases hu
      have hn : ∀ cs, v ≠ .agg cs := fun cs hc => by subst hc; simp [Value.okWide, hk, Cell.okWide, Cell.ok] at hv
      rw [one hn] at h1
      simpa [encT, encA, RelL] using h1
    · rename_i e hk
      have hn : ∀ cs, v ≠ .agg cs := fun cs hc => by subst hc; simp [Value.okWide, hk, Cell.okWide, Cell.ok] at hv
      rw [one hn] at h1
      split at hu
      · split at hu
        · cases hu
          simpa [encT, encA, RelL] using h1
        · cases hu
      · cases hu
    · rename_i fs hk
      obtain ⟨cs, rfl, _⟩ := okWide_struct hk hv
      split at hu
      · split at hu
        · cases hu
          simp only [encA, Rel]
          exact ⟨cs.toList, by simp, by simpa [encT, Value.cells] using h1, by simpa [Value.cells] using h4⟩
        · cases hu
      · cases hu
    · cases hu

theorem reads_args (hb : Bulk bulk all) {n : Nat} {spare : Nat → Bool} {held : Bool} : ∀ (ts : List TypeId) (us : Tys) (vs : List Value) (ds : List (DataW H)) (ps : List MemPlace), tysOf P n ts = some us →
    (∀ (j : Nat) t v, ts[j]? = some t → vs[j]? = some v → Value.okWide P w .any 0 t v) → DataW.TrodAll enc P w 0 spare held ts vs ds ps → (∀ x ∈ DataW.weightsEach P ts ds, x ≤ reachBytes) →
    ds.length = ts.length ∧ ∃ x : Ts us, RelL E0 (fz0 w) w (encAs us x) vs ∧ okTs us x ∧ wtTs us x ≤ all ds
  | [], us, vs, ds, ps, hu, hv, h, hR => by
    obtain ⟨rfl, rfl, rfl⟩ := trodAll_nil h
    simp only [tysOf, Option.some.injEq] at hu
    subst hu
    exact ⟨rfl, (), by simp [encAs, RelL], trivial, by simp [wtTs]⟩
  | t :: ts, us, vs, ds, ps, hu, hv, h, hR => by
    obtain ⟨v, vs', d, ds', p, q, rfl, rfl, rfl, h1, h2⟩ := trodAll_cons h
    simp only [DataW.weightsEach, List.mem_append] at hR
    unfold tysOf at hu
    split at hu
    · rename_i u us' e1 e2
      cases hu
      obtain ⟨x, r1, r2, r3⟩ := reads_arg hb e1 (hv 0 t v rfl rfl) (fun x hx => hR x (.inl hx)) h1
      obtain ⟨hl, y, q1, q2, q3⟩ := reads_args hb ts us' vs' ds' q e2 (fun j t' v' a b => hv (j + 1) t' v' (by simpa using a) (by simpa using b)) h2 (fun x hx => hR x (.inr hx))
      refine ⟨by simp [hl], ?_⟩
      rw [hb.cons]
      cases us' with
      | nil =>
        simp only [encAs, RelL] at q1
        subst q1
        exact ⟨x, by simp only [encAs, RelL]; exact ⟨v, [], rfl, r1, rfl⟩, r2, by simp only [wtTs]; omega⟩
      | cons u2 us2 =>
        refine ⟨(x, y), ?_, ⟨r2, q2⟩, Nat.add_le_add r3 q3⟩
        simp only [encAs, RelL]
        exact ⟨v, vs', rfl, r1, q1⟩
    · cases hu

theorem trodAll_stays (hl : laidOutB P = true) {W' : World} {sp : Nat → Bool} : ∀ (ts : List TypeId) (vs : List Value) (ds : List (DataW H)) (ps : List MemPlace), (∀ t ∈ ts, P.readableRec t = true ∧ t < P.types.size) →
    DataW.TrodAll enc P w 0 (fun _ => true) true ts vs ds ps → (∀ p ∈ ps, w.sameAt W' p) → (∀ p ∈ ps, sp p.block = true) → DataW.TrodAll enc P W' 0 sp true ts vs ds ps
  | [], vs, ds, ps, _, h, _, _ => by
    obtain ⟨rfl, rfl, rfl⟩ := trodAll_nil h
    exact trodAll_mk0
  | t :: ts, vs, ds, ps, ht, h, hs, hp => by
    obtain ⟨v, vs', d, ds', p, q, rfl, rfl, rfl, h1, h2⟩ := trodAll_cons h
    exact ⟨p, q, WideElems.Trod_stays hl (ht t (by simp)).1 (ht t (by simp)).2 h1 (fun x hx => hs x (by simp [hx])) (fun x hx => hp x (by simp [hx])),
      trodAll_stays hl ts vs' ds' q (fun t' h' => ht t' (by simp [h'])) h2 (fun x hx => hs x (by simp [hx])) (fun x hx => hp x (by simp [hx])), rfl⟩

/-- 'post_of_same' where the frame is that nothing below the heap's old size has turned. -/
theorem post_of_below {f : Func} {s : ChangeSpec} {apart fresh handsOn again : Bool} {W W' : World} {args : Array Value} {ds : List (DataW H)} {before : List MemPlace} (hl : laidOutB P = true)
    (hpar : ∀ t ∈ f.params.toList, P.readableRec t = true ∧ t < P.types.size) (hsv : s.vars = [])
    (hW : DataW.Whole enc P f.params.toList s.vars apart W args.toList ds [] before) (hsp : s.fn H ds = { results := [.lit (.bool true)], args := ds }) {tb : TypeId} (hrt : f.resultTypes = #[tb]) (htb : P.underlying tb = some .bool)
    (hb : Below W.heap.size W W') : s.post enc P f apart fresh handsOn again W args (.bool true) W' := by
  have hlt := hW.lt
  obtain ⟨p, q, hA, hV, rfl, hfz, hnd⟩ := hW
  have hV0 := hV
  rw [hsv] at hV
  obtain ⟨_, rfl⟩ := trodVars_none hV
  have same : ∀ x ∈ p, W.sameAt W' x := fun x hx => hb.same (hlt x (by simp [hx]))
  have hargs : ∀ sp : Nat → Bool, (∀ x ∈ p, sp x.block = true) → DataW.TrodAll enc P W' 0 sp true f.params.toList args.toList ds p := fun sp hs => trodAll_stays hl _ _ _ _ hpar hA same hs
  have hres : ∀ (b : Nat) (sp : Nat → Bool) (hd : Bool), DataW.TrodAll enc P W' b sp hd f.resultTypes.toList ((Value.bool true).resultList f.resultTypes.size) [DataW.lit (.bool true)] [] := fun b sp hd => by
    rw [hrt]
    exact trodAll_mk1 (shut_bool htb _)
  refine ⟨ds, [], p ++ [], [], p, [], ⟨p, [], hA, hV0, rfl, hfz, hnd⟩, ?_, ?_, ?_, ?_, fun _ => ?_⟩
  · rw [List.append_nil, hsp]; exact hres _ _ _
  · rw [List.append_nil, hsp]; exact hargs _ fun x hx => by simpa using hlt x (by simp [hx])
  · rw [List.append_nil, hsp, hsv]; exact rfl
  · exact World.keptBut_mono (fun x hx => by simpa using hx) (hb.frame (· ∈ p ++ []))
  · refine ⟨?_, [.lit (.bool true)] ++ ds, [], p ++ [], ⟨p, [], ?_, ?_, rfl, ?_, ?_⟩, fun x hx _ => hx⟩
    · exact ok_one hrt rfl (okWide_bool_mk htb _)
    · have := trodAll_append (hargs (fun _ => true) fun _ _ => rfl) (hres 0 (fun _ => true) true)
      simpa using this
    · rw [hsv]; exact rfl
    · intro b off hp
      have := hb.frozen (p := ⟨b, off, none⟩) (hlt _ hp)
      rw [this]
      exact hfz b off hp
    · exact hnd

theorem law_contract {fn : Func} {f : FuncId} {s : ChangeSpec} {tb : TypeId} {us : Tys} {n : Nat} {par : Array TypeId} (hps : fn.params = par) (hb : Bulk bulk all) (hl : laidOutB P = true) (hpar : ∀ t ∈ par.toList, P.readableRec t = true ∧ t < P.types.size) (hsv : s.vars = [])
    (hsp : ∀ ds : List (DataW H), ds.length = par.toList.length → s.fn H ds = { results := [.lit (.bool true)], args := ds }) (hrt : fn.resultTypes = #[tb]) (htb : P.underlying tb = some .bool) (hu : tysOf P n par.toList = some us)
    {args : Array Value} {ds gs : List (DataW H)} {before : List MemPlace} {W : World} {apart fresh handsOn again : Bool}
    (law : ∀ x : Ts us, okTs us x → wtTs us x ≤ all (ds ++ gs) → callable P f = true ∧ ACalls P f (encAs us x) [] (fun r _ => r = .bool true))
    (hval : ∀ (j : Nat) t v, fn.params[j]? = some t → args[j]? = some v → Value.okWide P W .any 0 t v)
    (hW : DataW.Whole enc P fn.params.toList s.vars apart W args.toList ds gs before) (hz : (DataW.weightsEach P (fn.params.toList ++ s.plain.varTypes P) (ds ++ gs)).all (· ≤ reachBytes) = true) :
    Calls P f args W fun e W' => ∃ v, e = .returned v ∧ s.post enc P fn apart fresh handsOn again W args v W' := by
  subst hps
  have hW0 := hW
  obtain ⟨p, q, hA, hV, _, _, _⟩ := hW
  rw [hsv] at hV
  obtain ⟨rfl, _⟩ := trodVars_none hV
  have hR : ∀ x ∈ DataW.weightsEach P fn.params.toList ds, x ≤ reachBytes := by
    have mono : ∀ (ts us : List TypeId) (ds es : List (DataW H)), ∀ x ∈ DataW.weightsEach P ts ds, ts.length = ds.length → x ∈ DataW.weightsEach P (ts ++ us) (ds ++ es) := by
      intro ts
      induction ts with
      | nil => intro us ds es x hx _; cases ds <;> simp [DataW.weightsEach] at hx
      | cons t ts ih =>
        intro us ds es x hx hl
        cases ds with
        | nil => simp [DataW.weightsEach] at hx
        | cons d ds =>
          simp only [DataW.weightsEach, List.mem_append, List.cons_append] at hx ⊢
          rcases hx with hx | hx
          · exact .inl hx
          · exact .inr (ih us ds es x hx (by simpa using hl))
    have hl : fn.params.toList.length = ds.length := by
      have : ∀ (ts : List TypeId) (vs : List Value) (ds : List (DataW H)) (ps : List MemPlace), DataW.TrodAll enc P W 0 (fun _ => true) true ts vs ds ps → ts.length = ds.length := by
        intro ts
        induction ts with
        | nil => intro vs ds ps h; obtain ⟨_, rfl, _⟩ := trodAll_nil h; rfl
        | cons t ts ih =>
          intro vs ds ps h
          obtain ⟨v, vs', d, ds', p, q, _, rfl, _, _, h2⟩ := trodAll_cons h
          simp [ih _ _ _ h2]
      exact this _ _ _ _ hA
    intro x hx
    have := List.all_eq_true.1 hz x (mono _ _ _ _ x hx hl)
    simpa using this
  obtain ⟨hlen, x, h1, h2, h3⟩ := reads_args hb _ us _ ds p hu (fun j t v a b => hval j t v (by simpa using a) (by simpa using b)) hA hR
  have st0 : St E0 (fz0 W) [] W := ⟨fun l o h => by simp at h, fun l l' b ⟨o, h, _⟩ => by simp at h, fun b h => h, 0, fun _ _ => rfl⟩
  have c0 := law x h2 (by rw [List.append_nil]; exact h3)
  have c := (c0.2.out E0 (fz0 W) W args.toList st0 h1).calls c0.1
  rw [show args.toList.toArray = args by simp] at c
  refine c.mono fun e W' ⟨r, S', v, E', fz', e1, e2, e3, e4, e5⟩ => ?_
  subst e5
  simp only [Rel] at e4
  subst e4
  refine ⟨_, e1, post_of_below hl hpar hsv hW0 (hsp ds (by simpa using hlen)) hrt htb ⟨e2.os, e2.tape.1, e2.output, e2.size, fun k hk => e2.keep k hk fun ⟨l, o, h, _⟩ => by simp at h⟩⟩

end
end Go.Vc
end

/-
  Plain facts for use in proofs by the conditions: cells of lists of plain elements, found by number.
-/
section
set_option linter.unusedVariables false
set_option linter.unusedSimpArgs false
namespace Go.Vc

theorem noTF {G : Prop} : (true = false) → G := fun h => nomatch h
theorem noFT {G : Prop} : (false = true) → G := fun h => nomatch h

theorem takeN_of_le : ∀ (n : Nat) (xs : List AVal), n ≤ xs.length → takeN n xs = some (xs.take n)
  | 0, _, _ => by simp [takeN]
  | n + 1, [], h => by simp at h
  | n + 1, x :: xs, h => by simp [takeN, takeN_of_le n xs (by simpa using h)]

theorem flatMap_length {α : Type} {enc : α → List AVal} {k : Nat} (hk : ∀ x, (enc x).length = k) (l : List α) : (l.flatMap enc).length = l.length * k := by
  induction l with
  | nil => simp
  | cons x l ih => simp [List.flatMap_cons, hk, ih, Nat.add_mul, Nat.add_comm]

theorem drop_flat {α : Type} {enc : α → List AVal} {k : Nat} (hk : ∀ x, (enc x).length = k) : ∀ (l : List α) (j : Nat), (l.flatMap enc).drop (j * k) = (l.drop j).flatMap enc
  | l, 0 => by simp
  | [], j + 1 => by simp
  | x :: l, j + 1 => by
    rw [List.flatMap_cons, List.drop_succ_cons, ← drop_flat hk l j, Nat.add_mul, Nat.one_mul, Nat.add_comm, ← List.drop_drop]
    rw [List.drop_left' (hk x)]

/-- Element j of a row of elements, or a part of it. -/
theorem take_flat {α : Type} {enc : α → List AVal} {k : Nat} (hk : ∀ x, (enc x).length = k) {l : List α} {j : Nat} (hj : j < l.length) (fo n : Nat) (h : fo + n ≤ k) :
    takeN n ((l.flatMap enc).drop (j * k + fo)) = some (((enc l[j]).drop fo).take n) := by
  rw [← List.drop_drop, drop_flat hk, List.drop_eq_getElem_cons hj, List.flatMap_cons, List.drop_append_of_le_length (by rw [hk]; omega), takeN_of_le _ _ (by simp [hk]; omega), List.take_append_of_le_length (by simp [hk]; omega)]

theorem take_flat0 {α : Type} {enc : α → List AVal} {k : Nat} (hk : ∀ x, (enc x).length = k) {l : List α} {j : Nat} (hj : j < l.length) :
    takeN k ((l.flatMap enc).drop (j * k)) = some (enc l[j]) := by
  have := take_flat hk hj 0 k (by omega)
  rw [Nat.add_zero] at this
  rw [this, List.drop_zero, List.take_of_length_le (by rw [hk]; omega)]

theorem take_nth {l : List AVal} {j : Nat} (hj : j < l.length) : takeN 1 (l.drop j) = some [l[j]] := by
  rw [takeN_of_le _ _ (by simp; omega), List.drop_eq_getElem_cons hj]
  simp only [List.take_succ_cons, List.take_zero]

theorem take_map {α : Type} {f : α → AVal} {l : List α} {j : Nat} (hj : j < l.length) : takeN 1 ((l.map f).drop (j * 1)) = some [f l[j]] := by
  rw [Nat.mul_one, take_nth (by simpa using hj)]
  simp

end Go.Vc
end
