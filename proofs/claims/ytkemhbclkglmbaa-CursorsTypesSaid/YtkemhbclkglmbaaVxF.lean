/-
  'cop': the model's operation as a simplified one; and that its condition is enough: operations that leave memory alone.
-/
import Derived.Test.YtkemhbclkglmbaaVxE
import Derived.Laws.Slices
import Derived.Laws.Small
import Derived.Laws.Bits
import Derived.Laws.Strings
set_option linter.unusedVariables false
set_option linter.unusedSimpArgs false
namespace Go.Vc

def tSize (P : Program) (t : TypeId) : Option Nat := match P.info? t with | some i => some i.size | none => none
def tBytes (P : Program) (t : TypeId) : Option Nat := match P.info? t with | some i => some i.bytes | none => none
def isAggD : TypeDesc → Bool | .struct _ => true | .array _ _ => true | _ => false
def tZero (P : Program) (t : TypeId) : Option (List AVal) :=
  match P.info? t with | some i => (match i.zero with | some z => absL z.cells.toList | none => none) | none => none
def kOf (P : Program) (t : TypeId) : Nat := match P.underlying t with | some (.array _ e) => (tSize P e).getD 0 | _ => 0

def cOpt (x : Option Operand) : Option (Option Rand) := match x with | none => some none | some x => match cRand x with | some r => some (some r) | none => none

def cStructParts (P : Program) (fs : Array Field) : List (Nat × Operand) → Option (List (Nat × Nat × Rand))
  | [] => some []
  | (i, x) :: rest =>
    match fs[i]?, cRand x, cStructParts P fs rest with
    | some f, some r, some ps => (match tSize P f.type with | some n => some ((f.offset, n, r) :: ps) | none => none)
    | _, _, _ => none
def cRowParts (n : Nat) : List (Nat × Operand) → Option (List (Nat × Nat × Rand))
  | [] => some []
  | (i, x) :: rest => match cRand x, cRowParts n rest with | some r, some ps => some ((i * n, n, r) :: ps) | _, _ => none

/-- Fields that are held against each other one by one: integers, strings, bools, in the order of their cells. -/
def flatFields (P : Program) : Nat → List Field → Option (List FK)
  | _, [] => some []
  | off, f :: fs => if f.name != "_" && f.offset == off then (match P.underlying f.type, flatFields P (off + 1) fs with
    | some (.int _), some ks => some (.int :: ks)
    | some .string, some ks => some (.str :: ks)
    | some .bool, some ks => some (.bool :: ks)
    | _, _ => none) else none

/-- .. structs of such among them. -/
def flatFields2 (P : Program) : Nat → List Field → Option (List FK)
  | _, [] => some []
  | off, f :: fs => (match flatFields P off [f] with
    | some ks1 => (match flatFields2 P (off + ks1.length) fs with | some ks => some (ks1 ++ ks) | none => none)
    | none => if f.name != "_" && f.offset == off then (match P.underlying f.type with
      | some (.struct gs) => (match flatFields P 0 gs.toList, tSize P f.type with
        | some ks1, some n => if n == ks1.length && !P.stoodInHeld f.type then (match flatFields2 P (off + ks1.length) fs with | some ks => some (ks1 ++ ks) | none => none) else none
        | _, _ => none)
      | _ => none) else none)

def eqQ (P : Program) (t : TypeId) : Option EqQ :=
  match P.underlying t with
  | some .bool => some .bool
  | some (.int _) => some .none
  | some .string => some .none
  | some (.pointer e) => (match tSize P e with | some (_ + 1) => some .ptr | _ => none)
  | some (.struct fs) => (match flatFields2 P 0 fs.toList with | some ks => if !P.stoodInHeld t && !P.eqGuardType P.depth t then some (.agg ks) else none | none => none)
  | some (.func _ _ _) => some .func
  | some (.map _ _) => some .map
  | _ => none

/-- A nil slice that will be appended to, as an owned row. -/
def cNil (ro : Bool) (k : Nat) : Operand → Option SOp
  | .const (.slice none 0 0) => if ro then some (.newnil k) else some (.mov (.c .nils))
  | x => match cRand x with | some r => some (.mov r) | none => none

def elemK (P : Program) (t : TypeId) : Nat := match P.underlying t with | some (.slice e) => (tSize P e).getD 0 | _ => 0

/-- A slice held against nil. -/
def cIsnil (P : Program) (op : BinOp) (t : TypeId) (x y : Operand) : Option SOp :=
  match P.underlying t, y, cRand x with
  | some (.slice _), .const (.slice none 0 0), some x => (match op with | .eql => some (.isnil false x) | .neq => some (.isnil true x) | _ => none)
  | _, _, _ => none
def cop (P : Program) (ro : Bool) (ty : TypeId) : Op → Option SOp
  | .move x => (match cRand x with | some r => some (.mov r) | none => none)
  | .assign x => cNil ro (elemK P ty) x
  | .pick c a b => (match cRand c, cRand a, cRand b with | some c, some a, some b => some (.pick c a b) | _, _, _ => none)
  | .alloc t => (match tZero P t with | some z => some (.alloc (kOf P t) z) | none => none)
  | .box t x => (match cRand x with | some r => some (.box (kOf P t) r) | none => none)
  | .build t parts => (match tZero P t, P.underlying t with
    | some z, some (.struct fs) => if fs.toList.all (fun f => (tSize P f.type).isSome) then (match cStructParts P fs parts.toList with | some ps => some (.build z ps) | none => none) else none
    | some z, some (.array _ e) => (match tSize P e with
      | some n => (match cRowParts n parts.toList with | some ps => some (.build z ps) | none => none)
      | none => none)
    | _, _ => none)
  | .buildSlice t len parts => (match P.underlying t with
    | some (.slice e) => (match tSize P e, tZero P e with
      | some n, some z => if len * n ≤ 2 ^ 24 ∧ 0 < n ∧ z.length = n then (match cRowParts n parts.toList with | some ps => some (.bslice ro len n (List.replicate len z).flatten ps) | none => none) else none
      | _, _ => none)
    | _ => none)
  | .load t x => (match P.info? t, P.underlying t, cRand x with
    | some i, some u, some r => if isAggD u then some (.load i.size true r) else some (.load 1 false r)
    | _, _, _ => none)
  | .store t x v => (match tSize P t, cRand x, cRand v with | some n, some x, some v => if n = 0 then none else some (.store n x v) | _, _, _ => none)
  | .nilCheck x => (match cRand x with | some r => some (.nilchk r) | none => none)
  | .binOp op t x y u => (match cIsnil P op t x y with | some so => some so | none => (match eqQ P t, cRand x, cRand y with | some q, some x, some y => some (.bin q op x y) | _, _, _ => none))
  | .unOp .not _ x => (match cRand x with | some r => some (.not r) | none => none)
  | .unOp .neg _ x => (match cRand x with | some r => some (.neg r) | none => none)
  | .convert s d x => (match P.underlying s, P.underlying d, cRand x with
    | some _, some (.int k), some r => some (.conv k r)
    | some .string, some .string, some r => some (.strid r)
    | some .string, some (.slice e), some r => (match P.underlying e with | some (.int .u8) => some (.s2b r) | _ => none)
    | some (.slice e), some (.slice _), some r => if s = d then (match P.underlying e with | some (.int .u8) => some (.mark r) | _ => none) else none
    | some (.slice e), some .string, some r => (match P.underlying e with | some (.int .u8) => some (.b2s r) | _ => none)
    | _, _, _ => none)
  | .makeSlice t l c => (match P.underlying t with
    | some (.slice e) => (match tSize P e, tBytes P e, tZero P e, cRand l, cRand c with
      | some n, some b, some z, some l, some c => if 0 < n ∧ 0 < b ∧ z.length = n then some (.mkslice n b z l c) else none
      | _, _, _, _, _ => none)
    | _ => none)
  | .slice t x lo hi none => (match P.underlying t, cRand x, cOpt lo, cOpt hi with
    | some .string, some x, some lo, some hi => some (.slice 0 x lo hi)
    | some (.slice e), some x, some lo, some hi => (match tSize P e with | some (n + 1) => some (.slice (n + 1) x lo hi) | _ => none)
    | _, _, _, _ => none)
  | .slice t x none (some h) (some m) => (match P.underlying t, cRand x, cRand h, cRand m with
    | some (.slice e), some x, some h, some m => (match tSize P e with | some (n + 1) => some (.slice3 (n + 1) x h m) | _ => none)
    | _, _, _, _ => none)
  | .fieldAddr s x f => (match P.underlying s, cRand x with
    | some (.struct fs), some r => (match fs[f]? with
      | some fd => (match tSize P fd.type with | some (n + 1) => some (.faddr fd.offset r) | _ => none)
      | none => none)
    | _, _ => none)
  | .field t x f => (match P.underlying t, cRand x with
    | some (.struct fs), some r => (match fs[f]? with
      | some fd => (match P.underlying fd.type, tSize P fd.type with
        | some u, some n => if isAggD u then some (.field fd.offset n true r) else some (.field fd.offset 1 false r)
        | _, _ => none)
      | none => none)
    | _, _ => none)
  | .indexAddr t x i => (match P.underlying t, cRand x, cRand i with
    | some (.slice e), some x, some i => (match tSize P e with | some n => some (.iaddr n none x i) | none => none)
    | some (.array len e), some x, some i => (match tSize P e with | some n => some (.iaddr n (some len) x i) | none => none)
    | _, _, _ => none)
  | .index t x i => (match P.underlying t, cRand x, cRand i with
    | some .string, some x, some i => some (.index 1 none false x i)
    | some (.array len e), some x, some i => (match P.underlying e, tSize P e with
      | some u, some n => if isAggD u then some (.index n (some len) true x i) else (if n = 1 then some (.index 1 (some len) false x i) else none)
      | _, _ => none)
    | _, _, _ => none)
  | .makeInterface t x => (match P.underlying t, cRand x with | some (.interface _), _ => none | some _, some r => some (.mkif t r) | _, _ => none)
  | .makeFunc f first cap => (match cRands first.toList, cRands cap.toList with | some a, some b => some (.mkfunc f a b) | _, _ => none)
  | .extract x i => (match cRand x with | some r => some (.extract r i) | none => none)
  | .call c => (match c.callee, cRands c.args.toList with
    | .builtin .len, some [x] => (match c.argTypes[0]?.bind P.underlying with
      | some .string => some (.len true x)
      | some (.slice _) => some (.len false x)
      | _ => none)
    | .builtin .append, some [s, x] => (match c.argTypes[0]?.bind P.underlying, c.argTypes[1]?.bind P.underlying with
      | some (.slice e), some u => (match P.info? e with
        | some i => (match i.zero, u with
          | some z, .slice _ => if 0 < i.size ∧ 0 < i.bytes ∧ z.cells.size = i.size then some (.append i.size i.bytes s x) else none
          | some z, .string => if 0 < i.size ∧ 0 < i.bytes ∧ z.cells.size = i.size then some (.append i.size i.bytes s x) else none
          | _, _ => none)
        | none => none)
      | _, _ => none)
    | .builtin .clear, some [x] => (match c.argTypes[0]?.bind P.underlying with
      | some (.slice e) => (match tSize P e, tZero P e with | some n, some z => if 0 < n ∧ z.length = n then some (.clear n z x) else none | _, _ => none)
      | _ => none)
    | .builtin .min, some xs => some (.min xs)
    | .builtin .max, some xs => some (.max xs)
    | .value (.func f), some xs => if callable P f then some (.call f xs) else (match extK P f with | some k => some (.ext k xs) | none => none)
    | .value x, some xs => (match cRand x with | some r => some (.callv r xs) | none => none)
    | _, _ => none)
  | _ => none

section
variable {P : Program} {E : Env} {fz : Nat → Prop} {S : Store} {w : World} {F : Frame} {a : Act} {K : AVal → Store → Prop} {ro : Bool}

theorem wIdx_rel {x : AVal} {v : Value} {K : Nat → Prop} (h : wIdx x K) (hr : Rel E fz w x v) : ∃ (k : IntKind) (j : Nat), v = .int k (j : Int) ∧ K j ∧ x = .int k (j : Int) := by
  cases x <;> simp only [wIdx] at h
  obtain ⟨j, rfl, hk⟩ := h
  simp only [Rel] at hr
  exact ⟨_, j, hr, hk, rfl⟩

theorem wCells_rel {x : AVal} {v : Value} {K : List AVal → Prop} (h : wCells x K) (hr : Rel E fz w x v) : ∃ cs : List AVal, K cs ∧ RelL E fz w cs v.cells.toList ∧ ∀ c ∈ v.cells.toList, c.oneCell' = true := by
  have one : ∀ {y : AVal} {u : Value}, Rel E fz w y u → u.oneCell' = true → u.cells = #[u] → K [y] → ∃ cs : List AVal, K cs ∧ RelL E fz w cs u.cells.toList ∧ ∀ c ∈ u.cells.toList, c.oneCell' = true := by
    intro y u h1 h2 h3 h4
    refine ⟨[y], h4, ?_, ?_⟩
    · rw [h3]; simp only [RelL]; exact ⟨u, [], rfl, h1, rfl⟩
    · rw [h3]; simpa using h2
  cases x <;> simp only [wCells] at h
  case agg cs =>
    simp only [Rel] at hr
    obtain ⟨vs, rfl, h1, h2⟩ := hr
    exact ⟨cs, h, by simpa [Value.cells] using h1, by simpa [Value.cells] using h2⟩
  all_goals first | exact h.elim | skip
  all_goals
    have hr' := hr
    simp only [Rel] at hr'
  case tt => subst hr'; exact one hr rfl rfl h
  case ff => subst hr'; exact one hr rfl rfl h
  case bool => subst hr'; exact one hr rfl rfl h
  case int => subst hr'; exact one hr rfl rfl h
  case str => subst hr'; exact one hr rfl rfl h
  case nilp => subst hr'; exact one hr rfl rfl h
  case ptr => obtain ⟨_, _, _, _, _, rfl⟩ := hr'; exact one hr rfl rfl h
  case rop => obtain ⟨_, _, _, rfl, _⟩ := hr'; exact one hr rfl rfl h
  case nils => subst hr'; exact one hr rfl rfl h
  case sl => rcases hr' with ⟨_, _, rfl⟩ | ⟨_, _, _, _, _, _, _, _, rfl⟩ <;> exact one hr rfl rfl h
  case ros => rcases hr' with ⟨_, _, _, rfl⟩ | ⟨_, _, _, _, _, rfl, _⟩ <;> exact one hr rfl rfl h
  case fn => obtain ⟨_, _, rfl, _, _⟩ := hr'; exact one hr rfl rfl h
  case nilf => subst hr'; exact one hr rfl rfl h
  case map => obtain ⟨_, _, rfl⟩ := hr'; exact one hr rfl rfl h
  case nilm => subst hr'; exact one hr rfl rfl h
  case iface => obtain ⟨_, rfl, _⟩ := hr'; exact one hr rfl rfl h
  case nili => subst hr'; exact one hr rfl rfl h

theorem i64_wrap {n : Int} (h : inI64 n) : IntKind.i64.wrap n = n := by
  unfold inI64 at h
  simp only [IntKind.wrap, IntKind.bits, IntKind.signed, Bool.true_and, decide_eq_true_eq, show (2 : Int) ^ 64 = 18446744073709551616 from rfl, show (2 : Int) ^ (64 - 1) = 9223372036854775808 from rfl]
  split <;> omega

theorem wMk_rel {k : IntKind} {n : Int} {K : AVal → Prop} (h : wMk k n K) : ∃ x, K x ∧ Rel E fz w x (.int k (k.wrap n)) := by
  unfold wMk at h
  split at h
  · exact ⟨_, h.2, by simp [Rel, i64_wrap h.1]⟩
  · exact ⟨_, h, by simp [Rel]⟩

/-! ### Operations that leave memory alone -/
theorem runs_pure (st : St E fz S w) {o : Oper} {v : Value} {x : AVal} (h : (execOp a.eval o).run P w = .ok (.value v) w) (hk : K x S) (hr : Rel E fz w x v) :
    RunsTo P ((execOp a.eval o).run P w) (Post K E fz S w) := by rw [h]; exact Post.same st hk hr

theorem mov_sound (st : St E fz S w) (hF : RelF E fz w F a.tmps) {o : Oper} {x : Operand} {r : Rand} (ho : o.op = .move x ∨ o.op = .assign x) (hx : cRand x = some r)
    (h : vcOp P F S K (.mov r)) : RunsTo P ((execOp a.eval o).run P w) (Post K E fz S w) := by
  simp only [vcOp, rdK_iff] at h
  refine runs_pure st ?_ h (eval_rel hF hx)
  rcases ho with ho | ho <;> simp [execOp, ho]

theorem pick_sound (st : St E fz S w) (hF : RelF E fz w F a.tmps) {o : Oper} {c x y : Operand} {rc rx ry : Rand} (ho : o.op = .pick c x y) (hc : cRand c = some rc) (hx : cRand x = some rx) (hy : cRand y = some ry)
    (h : vcOp P F S K (.pick rc rx ry)) : RunsTo P ((execOp a.eval o).run P w) (Post K E fz S w) := by
  have h1 := eval_rel hF hc
  have h2 := eval_rel hF hx
  have h3 := eval_rel hF hy
  simp only [vcOp, rdK_iff] at h
  generalize rd F rc = C at *
  cases C <;> simp only [Rel] at h1 <;> first | exact h.elim | skip
  case tt => exact runs_pure st (by simp [execOp, ho, h1, asBool]) h h2
  case ff => exact runs_pure st (by simp [execOp, ho, h1, asBool]) h h3
  case bool b =>
    cases b
    · exact runs_pure st (by simp [execOp, ho, h1, asBool]) (h.2 rfl) h3
    · exact runs_pure st (by simp [execOp, ho, h1, asBool]) (h.1 rfl) h2

theorem nilchk_sound (st : St E fz S w) (hF : RelF E fz w F a.tmps) {o : Oper} {x : Operand} {r : Rand} (ho : o.op = .nilCheck x) (hx : cRand x = some r)
    (h : vcOp P F S K (.nilchk r)) : RunsTo P ((execOp a.eval o).run P w) (Post K E fz S w) := by
  have h1 := eval_rel hF hx
  simp only [vcOp, rdK_iff] at h
  generalize rd F r = X at *
  cases X <;> first | exact h.elim | skip
  case ptr l v off =>
    have h1' := h1
    simp only [Rel] at h1'
    obtain ⟨_, _, _, _, _, e⟩ := h1'
    exact runs_pure st (by simp [execOp, ho, e]) h (e ▸ h1)
  case rop cs =>
    have h1' := h1
    simp only [Rel] at h1'
    obtain ⟨_, _, _, e, _⟩ := h1'
    exact runs_pure st (by simp [execOp, ho, e]) h (e ▸ h1)
  case fn f xs ys =>
    have h1' := h1
    simp only [Rel] at h1'
    obtain ⟨vs, us, e, _, _⟩ := h1'
    cases f <;> first | exact h.elim | skip
    exact runs_pure st (by simp [execOp, ho, e]) h (e ▸ h1)
  case map l v =>
    have h1' := h1
    simp only [Rel] at h1'
    obtain ⟨_, _, e⟩ := h1'
    exact runs_pure st (by simp [execOp, ho, e]) h (e ▸ h1)

theorem un_sound (st : St E fz S w) (hF : RelF E fz w F a.tmps) {o : Oper} {x : Operand} {r : Rand} {t : TypeId} (hx : cRand x = some r)
    (h : (o.op = .unOp .not t x ∧ vcOp P F S K (.not r)) ∨ (o.op = .unOp .neg t x ∧ vcOp P F S K (.neg r))) : RunsTo P ((execOp a.eval o).run P w) (Post K E fz S w) := by
  have h1 := eval_rel hF hx
  rcases h with ⟨ho, h⟩ | ⟨ho, h⟩ <;> simp only [vcOp, rdK_iff] at h <;> generalize rd F r = X at *
  · cases X <;> simp only [wBool] at h <;> simp only [Rel] at h1 <;>
      exact runs_pure st (by simp [execOp, ho, h1, Op.unary]; rfl) h (by simp [Rel])
  · cases X <;> simp only [wInt] at h
    simp only [Rel] at h1
    obtain ⟨y, hy, hr⟩ := wMk_rel (E := E) (fz := fz) (w := w) h
    exact runs_pure st (by simp [execOp, ho, h1, Op.unary, Op.intArith]; rfl) hy (by simpa using hr)

theorem conv_sound (st : St E fz S w) (hF : RelF E fz w F a.tmps) {o : Oper} {x : Operand} {r : Rand} {s d : TypeId} {u : TypeDesc} {k : IntKind} (ho : o.op = .convert s d x) (hs : P.underlying s = some u) (hd : P.underlying d = some (.int k)) (hx : cRand x = some r)
    (h : vcOp P F S K (.conv k r)) : RunsTo P ((execOp a.eval o).run P w) (Post K E fz S w) := by
  have h1 := eval_rel hF hx
  simp only [vcOp, rdK_iff] at h
  generalize rd F r = X at *
  cases X <;> simp only [wInt] at h
  simp only [Rel] at h1
  obtain ⟨y, hy, hr⟩ := wMk_rel (E := E) (fz := fz) (w := w) h
  exact runs_pure st (by simp [execOp, ho, h1, convert, run_underlying hs, run_underlying hd, Conv.intToInt]) hy hr

theorem strid_sound (st : St E fz S w) (hF : RelF E fz w F a.tmps) {o : Oper} {x : Operand} {r : Rand} {s d : TypeId} (ho : o.op = .convert s d x) (hs : P.underlying s = some .string) (hd : P.underlying d = some .string) (hx : cRand x = some r)
    (h : vcOp P F S K (.strid r)) : RunsTo P ((execOp a.eval o).run P w) (Post K E fz S w) := by
  have h1 := eval_rel hF hx
  simp only [vcOp, rdK_iff] at h
  generalize rd F r = X at *
  cases X <;> first | exact h.elim | skip
  have h1' := h1
  simp only [Rel] at h1'
  exact runs_pure st (by simp [execOp, ho, h1', convert, run_underlying hs, run_underlying hd]) h (h1' ▸ h1)

theorem mkif_sound (st : St E fz S w) (hF : RelF E fz w F a.tmps) {o : Oper} {t : TypeId} {d : TypeDesc} {x : Operand} {r : Rand} (ho : o.op = .makeInterface t x) (ht : P.underlying t = some d) (hd : ∀ m, d ≠ .interface m) (hx : cRand x = some r)
    (h : vcOp P F S K (.mkif t r)) : RunsTo P ((execOp a.eval o).run P w) (Post K E fz S w) := by
  simp only [vcOp, rdK_iff] at h
  refine runs_pure st (v := .iface t (a.eval x)) ?_ h ?_
  · simp only [execOp, ho, Instr.makeInterface, Sem.run_bind, run_underlying ht, Result.andThen_ok]
    cases d <;> first | rfl | exact absurd rfl (hd _)
  · simp only [Rel]
    exact ⟨_, rfl, eval_rel hF hx⟩

theorem mkfunc_sound (st : St E fz S w) (hF : RelF E fz w F a.tmps) {o : Oper} {f : Fn} {x y : Array Operand} {rx ry : List Rand} (ho : o.op = .makeFunc f x y) (hx : cRands x.toList = some rx) (hy : cRands y.toList = some ry)
    (h : vcOp P F S K (.mkfunc f rx ry)) : RunsTo P ((execOp a.eval o).run P w) (Post K E fz S w) := by
  simp only [vcOp, rdsK_iff] at h
  refine runs_pure st (v := .func f (x.map a.eval) (y.map a.eval)) (by simp [execOp, ho, Instr.makeFunc]) h ?_
  simp only [Rel]
  exact ⟨x.toList.map a.eval, y.toList.map a.eval, by simp [← Array.toList_map], evals_rel hF hx, evals_rel hF hy⟩

theorem extract_sound (st : St E fz S w) (hF : RelF E fz w F a.tmps) {o : Oper} {x : Operand} {r : Rand} {i : Nat} (ho : o.op = .extract x i) (hx : cRand x = some r)
    (h : vcOp P F S K (.extract r i)) : RunsTo P ((execOp a.eval o).run P w) (Post K E fz S w) := by
  have h1 := eval_rel hF hx
  simp only [vcOp, rdK_iff] at h
  generalize rd F r = X at *
  cases X <;> simp only [dropK_iff] at h
  case tup xs =>
    simp only [Rel] at h1
    obtain ⟨vs, e, hl⟩ := h1
    cases hd : xs.drop i with
    | nil => rw [hd] at h; exact h.elim
    | cons y ys =>
      rw [hd] at h
      have hi : xs[i]? = some y := by
        have := congrArg (·[0]?) hd
        simpa using this
      obtain ⟨v, hv, hr⟩ := hl.get hi
      exact runs_pure st (by simp [execOp, ho, e, Instr.extract, hv]) h hr
  all_goals exact h.elim

theorem len_sound (st : St E fz S w) (hF : RelF E fz w F a.tmps) {o : Oper} {c : Call} {r : Rand} {t : TypeId} {str : Bool} (ho : o.op = .call c) (hc : c.callee = .builtin .len) (hargs : cRands c.args.toList = some [r])
    (ht : c.argTypes[0]? = some t) (hu : (str = true ∧ P.underlying t = some .string) ∨ (str = false ∧ ∃ e, P.underlying t = some (.slice e)))
    (h : vcOp P F S K (.len str r)) : RunsTo P ((execOp a.eval o).run P w) (Post K E fz S w) := by
  have h1 := evals_rel hF hargs
  simp only [List.map_cons, List.map_nil, RelL] at h1
  obtain ⟨v, us, e1, hr, rfl⟩ := h1
  have e2 : (c.args.map a.eval)[0]? = some v := by rw [← Array.getElem?_toList, Array.toList_map, e1]; rfl
  simp only [vcOp, rdK_iff] at h
  generalize rd F r = X at *
  have go : ∀ {n : Nat}, (Builtin.len_ c.argTypes o.type (c.args.map a.eval)).run P w = .ok (goInt n) w → K (.int .i64 (n : Int)) S → RunsTo P ((execOp a.eval o).run P w) (Post K E fz S w) := fun {n} hrun hk => by
    refine runs_pure st (v := .int .i64 n) ?_ hk (by simp [Rel])
    simp [execOp, ho, resolve, hc, invoke, builtin, hrun, goInt]
  rcases hu with ⟨rfl, hu⟩ | ⟨rfl, e, hu⟩
  · cases X <;> first | exact h.elim | skip
    rename_i s
    simp only [Rel] at hr
    subst hr
    refine go (n := s.length) ?_ h
    simp [Builtin.len_, ht, e2, run_underlying hu]; rfl
  · have slice : ∀ {ao : Option Addr} {n cap : Nat}, v = .slice ao n cap → K (.int .i64 (n : Int)) S → RunsTo P ((execOp a.eval o).run P w) (Post K E fz S w) := fun {ao n cap} hv hk => by
      subst hv
      exact go (by simp [Builtin.len_, ht, e2, run_underlying hu]) hk
    cases X <;> first | exact h.elim | skip
    case ros n cs =>
      simp only [Rel] at hr
      rcases hr with ⟨rfl, _, _, rfl⟩ | ⟨_, _, _, _, _, rfl, _⟩ <;> exact slice rfl h
    case sl l ver off n =>
      simp only [Rel] at hr
      rcases hr with ⟨rfl, _, rfl⟩ | ⟨_, _, _, _, _, _, _, _, rfl⟩ <;> exact slice rfl h
    case nils =>
      simp only [Rel] at hr
      exact slice hr h

end
end Go.Vc
