/-
  From the model's code to the simplified code ('comp'), and that its conditions are enough: regions in the order of the text.
-/
import Derived.Test.YtkemhbclkglmbaaVxL
set_option linter.unusedVariables false
set_option linter.unusedSimpArgs false
namespace Go.Vc

def roOf (g : GOp) : Bool := match g.op with | .bslice ro _ _ _ _ => ro | .newnil _ => true | _ => false

def cGuard (ops : Array Oper) : Option (Nat × Bool) → Option (Option (Nat × Bool))
  | none => some none
  | some (j, want) => match (ops[j]?).bind (·.dst) with | some d => some (some (d, want)) | none => none

def dstOk (N : Nat) (d : Option Nat) : Bool := match d with | some d => d < N | none => true

/-- The operations one by one; N: how many slots the frame has. -/
def cOps (P : Program) (N : Nat) (ops : Array Oper) : List Oper → List GOp → Option (List GOp)
  | [], [] => some []
  | o :: l, g :: gl => (match cGuard ops o.guard, cOps P N ops l gl with
      | some gd, some rest => if dstOk N o.dst then some ({ dst := o.dst, op := copR P (roOf g) g.op o.type o.op, guard := gd, isG := g.isG, chk := g.chk } :: rest) else none
      | _, _ => none)
  | _, _ => none

section
variable {P : Program} {E : Env} {fz : Nat → Prop} {S : Store} {w : World} {F : Frame} {a : Act} {ro : Bool}

theorem relF_put {d : Option Nat} {x : AVal} {v : Value} (hF : RelF E fz w F a.tmps) (hx : Rel E fz w x v) (hd : dstOk a.tmps.size d = true) : RelF E fz w (putF F d x) (a.put d v).tmps := by
  cases d with
  | none => exact hF
  | some d =>
    simp only [dstOk, decide_eq_true_eq] at hd
    intro n
    simp only [putF, Frame.get, Act.put]
    cases h : Nat.beq d n with
    | true =>
      have e : d = n := Nat.eq_of_beq_eq_true h
      subst e
      simpa [Array.getD, hd] using hx
    | false =>
      have e : d ≠ n := Nat.ne_of_beq_eq_false h
      have : (a.tmps.setIfInBounds d v).getD n undef = a.tmps.getD n undef := by
        simp only [Array.getD_eq_getD_getElem?, Array.getElem?_setIfInBounds, if_neg e]
      simp only [this]
      exact hF n

theorem put_size {d : Option Nat} {v : Value} : (a.put d v).tmps.size = a.tmps.size := by
  cases d <;> simp [Act.put]
theorem put_defers {d : Option Nat} {v : Value} : (a.put d v).defers = a.defers := by
  cases d <;> simp [Act.put]
theorem put_other {d : Option Nat} {v : Value} {t : Nat} (h : d ≠ some t) : (a.put d v).tmps[t]? = a.tmps[t]? := by
  cases d with
  | none => rfl
  | some d => simp only [Act.put, Array.getElem?_setIfInBounds]; rw [if_neg (fun e => h (by rw [e]))]

theorem RelF.mono {E' : Env} {fz' : Nat → Prop} {S' : Store} {w' : World} (st : St E fz S w) (hx : Ext E fz S w E' fz' S' w') {tmps : Array Value} (h : RelF E fz w F tmps) : RelF E' fz' w' F tmps :=
  fun n => st.rel hx (h n)

theorem getD_of {x y : Array Value} {t : Nat} (h : x[t]? = y[t]?) : x.getD t undef = y.getD t undef := by
  rw [Array.getD_eq_getD_getElem?, Array.getD_eq_getD_getElem?, h]

/-- Where the code goes on: state, frame, what was not written. -/
def After (N : Nat) (E : Env) (fz : Nat → Prop) (S : Store) (w : World) (a : Act) (W : List Nat) (K : Frame → Store → Prop) (a' : Act) (w' : World) : Prop :=
  ∃ F' S' E' fz', K F' S' ∧ Ext E fz S w E' fz' S' w' ∧ St E' fz' S' w' ∧ RelF E' fz' w' F' a'.tmps ∧ a'.tmps.size = N ∧ a'.defers = a.defers ∧ ∀ t, t ∉ W → a'.tmps[t]? = a.tmps[t]?

def gWrites : List GOp → List Nat
  | [] => []
  | o :: l => o.dst.toList ++ gWrites l

theorem splitG_rel {b : Bool} {x : AVal} {v : Value} {K : AVal → Prop} (h : splitG b x K) (hx : Rel E fz w x v) : ∃ y, K y ∧ Rel E fz w y v := by
  cases b
  · exact ⟨x, h, hx⟩
  · cases x <;> simp only [splitG] at h
    case tt => exact ⟨_, h, hx⟩
    case ff => exact ⟨_, h, hx⟩
    case bool b =>
      simp only [Rel] at hx
      cases b
      · exact ⟨.ff, h.2 rfl, by simpa [Rel] using hx⟩
      · exact ⟨.tt, h.1 rfl, by simpa [Rel] using hx⟩

theorem wanted_rel {ops : Array Oper} {o : Oper} {g : Nat} {want : Bool} {j : Nat} (hg : o.guard = some (j, want)) (hd : (ops[j]?).bind (·.dst) = some g) (hF : RelF E fz w F a.tmps) :
    (F.get g = .tt → Region.wanted o (yielded ops a.tmps) = want) ∧ (F.get g = .ff → Region.wanted o (yielded ops a.tmps) = !want) ∧ (∀ l, F.get g = .tup l → Region.wanted o (yielded ops a.tmps) = false) := by
  have hr := hF g
  have hy : ∀ v, a.tmps.getD g undef = v → v ≠ undef → a.tmps[g]? = some v := fun v hv hne => by
    rw [Array.getD_eq_getD_getElem?] at hv
    cases h : a.tmps[g]? with
    | none => rw [h] at hv; exact (hne hv.symm).elim
    | some u => rw [h] at hv; simp at hv; rw [hv]
  refine ⟨fun e => ?_, fun e => ?_, fun l e => ?_⟩
  · rw [e] at hr
    simp only [Rel] at hr
    have := hy _ hr (by simp [undef])
    simp [Region.wanted, hg, yielded, hd, this]
  · rw [e] at hr
    simp only [Rel] at hr
    have := hy _ hr (by simp [undef])
    cases want <;> simp [Region.wanted, hg, yielded, hd, this]
  · rw [e] at hr
    simp only [Rel] at hr
    obtain ⟨vs, hv, _⟩ := hr
    have : yielded ops a.tmps j = none := by
      simp only [yielded, hd, Option.bind_some]
      cases h : a.tmps[g]? with
      | none => rfl
      | some u =>
        rw [Array.getD_eq_getD_getElem?, h] at hv
        simp at hv
        subst hv
        rfl
    simp [Region.wanted, hg, this]

theorem ops_sound {N : Nat} {ops : Array Oper} {Q : Exit → Act → World → Prop} {K : Frame → Store → Prop} : ∀ (l : List Oper) (hint gl : List GOp) (k : Nat) {E : Env} {fz : Nat → Prop} {S : Store} {w : World} {F : Frame} {a : Act},
    (∀ j, l[j]? = ops[k + j]?) → cOps P N ops l hint = some gl → St E fz S w → RelF E fz w F a.tmps → a.tmps.size = N → vcOps P K gl F S →
    (∀ a' w', After N E fz S w a (gWrites gl) K a' w' → Q .normal a' w') → wpOps P ops Q (List.range' k l.length) a w
  | [], hint, gl, k, E, fz, S, w, F, a, hl, hc, st, hF, hN, h, hQ => by
    cases hint <;> simp only [cOps] at hc <;> cases hc
    simp only [List.length_nil, List.range'_zero, wpOps]
    exact hQ a w ⟨F, S, E, fz, h, .refl, st, hF, hN, rfl, fun _ _ => rfl⟩
  | o :: l, hint, gl, k, E, fz, S, w, F, a, hl, hc, st, hF, hN, h, hQ => by
    cases hint with
    | nil => simp only [cOps] at hc; cases hc
    | cons g hint =>
    simp only [cOps] at hc
    split at hc
    case h_2 => cases hc
    rename_i gd rest hgd hrest
    split at hc
    case isFalse => cases hc
    rename_i hdst
    cases hc
    have h0 : ops[k]? = some o := by simpa using (hl 0).symm
    simp only [List.length_cons, List.range'_succ, wpOps, h0]
    have ih : ∀ {x : AVal} {S' : Store} {E' : Env} {fz' : Nat → Prop} {w' : World} {v : Value}, vcOps P K rest (putF F o.dst x) S' → Ext E fz S w E' fz' S' w' → St E' fz' S' w' → Rel E' fz' w' x v → wpOps P ops Q (List.range' (k + 1) l.length) (a.put o.dst v) w' :=
      fun {x S' E' fz' w' v} hk hx hs hr => by
        refine ops_sound l hint rest (k + 1) (fun j => by have := hl (j + 1); simpa [Nat.add_assoc, Nat.add_comm 1 j] using this) hrest hs (relF_put (RelF.mono st hx hF) hr (by rw [hN]; exact hdst)) (by rw [put_size]; exact hN) hk ?_
        rintro a' w'' ⟨F', S'', E'', fz'', q1, q2, q3, q4, q5, q6, q7⟩
        refine hQ a' w'' ⟨F', S'', E'', fz'', q1, hx.trans q2, q3, q4, q5, by rw [q6, put_defers], fun t ht => ?_⟩
        simp only [gWrites, List.mem_append, not_or] at ht
        rw [q7 t ht.2, put_other (fun e => ht.1 (by simp [e]))]
    have run : vcOp P F S (fun x S' => splitG g.isG x fun x => vcOps P K rest (putF F o.dst x) S') (copR P (roOf g) g.op o.type o.op) → o.wp P a w (wpOps P ops Q (List.range' (k + 1) l.length)) Q := fun hop => by
      refine wp_of_runs (copR_sound st hF rfl hop) ?_
      rintro v w' ⟨x, S', E', fz', hk, hx, hs, hr⟩
      obtain ⟨y, hy, hr'⟩ := splitG_rel hk hr
      exact ih hy hx hs hr'
    have skip : vcOps P K rest (putF F o.dst (.tup [])) S → wpOps P ops Q (List.range' (k + 1) l.length) (a.put o.dst undef) w := fun hk =>
      ih hk .refl st (by simp only [Rel]; exact ⟨[], rfl, by simp [RelL]⟩)
    simp only [vcOps] at h
    cases hgo : o.guard with
    | none =>
      rw [hgo] at hgd
      simp only [cGuard] at hgd
      cases hgd
      rw [if_pos (by simp [Region.wanted, hgo])]
      exact .inl (run h)
    | some jw =>
      obtain ⟨j, want⟩ := jw
      rw [hgo] at hgd
      simp only [cGuard] at hgd
      split at hgd
      case h_2 => cases hgd
      rename_i d hd
      cases hgd
      obtain ⟨w1, w2, w3⟩ := wanted_rel hgo hd hF
      simp only [getK_iff] at h
      cases hg : F.get d <;> rw [hg] at h <;> simp only at h
      case tt =>
        rw [w1 hg]
        cases want
        · rw [if_neg (by simp)]; exact skip h
        · rw [if_pos rfl]; exact .inl (run h)
      case ff =>
        rw [w2 hg]
        cases want
        · rw [if_pos (by simp)]; exact .inl (run h)
        · rw [if_neg (by simp)]; exact skip h
      case tup =>
        rw [w3 _ hg, if_neg (by simp)]
        exact skip h
end
end Go.Vc
