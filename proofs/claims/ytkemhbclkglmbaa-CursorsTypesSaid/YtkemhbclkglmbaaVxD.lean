/-
  From the model's operations to the simplified ones ('cop'), and the first half of why that is sound.
-/
import Derived.Test.YtkemhbclkglmbaaVxC
import Derived.Laws.StructEq
import Derived.Laws.Append
import Derived.Laws.Entries
set_option linter.unusedVariables false
set_option linter.unusedSimpArgs false
namespace Go.Vc

def absS : Value → Option AVal
  | .bool b => some (.bool b)
  | .int k n => some (.int k n)
  | .string s => some (.str s.data.toList)
  | .pointer none => some .nilp
  | .slice none 0 0 => some .nils
  | .map none => some .nilm
  | .nilFunc => some .nilf
  | .nilIface => some .nili
  | _ => none

def absL : List Value → Option (List AVal)
  | [] => some []
  | v :: vs => match absS v, absL vs with | some x, some xs => some (x :: xs) | _, _ => none

def absV : Value → Option AVal
  | .agg cs => match absL cs.toList with | some xs => some (.agg xs) | none => none
  | v => absS v

def cRand : Operand → Option Rand
  | .tmp t => some (.t t)
  | .const v => match absV v with | some x => some (.c x) | none => none
  | .func f => some (.c (.fn (.func f) [] []))
  | .global _ => none

def cRands : List Operand → Option (List Rand)
  | [] => some []
  | x :: xs => match cRand x, cRands xs with | some y, some ys => some (y :: ys) | _, _ => none

section
variable {E : Env} {fz : Nat → Prop} {w : World}
theorem absS_rel {v : Value} {x : AVal} (h : absS v = some x) : Rel E fz w x v ∧ v.oneCell' = true := by
  unfold absS at h
  split at h <;> cases h <;> simp [Rel, Value.oneCell']
theorem absL_rel : ∀ {vs : List Value} {xs : List AVal}, absL vs = some xs → RelL E fz w xs vs ∧ ∀ c ∈ vs, c.oneCell' = true
  | [], _, h => by simp [absL] at h; subst h; simp [RelL]
  | v :: vs, _, h => by
    simp only [absL] at h
    split at h
    · rename_i x xs h1 h2
      cases h
      have := absL_rel h2
      have h3 := absS_rel (E := E) (fz := fz) (w := w) h1
      refine ⟨by simp only [RelL]; exact ⟨v, vs, rfl, h3.1, this.1⟩, fun c hc => ?_⟩
      rcases List.mem_cons.1 hc with rfl | hc
      · exact h3.2
      · exact this.2 c hc
    · cases h
theorem absV_rel {v : Value} {x : AVal} (h : absV v = some x) : Rel E fz w x v := by
  unfold absV at h
  split at h
  · rename_i cs
    split at h
    · rename_i xs hx
      cases h
      have := absL_rel (E := E) (fz := fz) (w := w) hx
      simp only [Rel]
      exact ⟨cs.toList, by simp, this.1, this.2⟩
    · cases h
  · exact (absS_rel h).1
end

/-! ### The forced forms are what they say -/
theorem getK_iff {n : Nat} {K : AVal → Prop} : ∀ {F : Frame}, getK F n K ↔ K (F.get n)
  | [] => by simp [getK, Frame.get]
  | (k, x) :: F => by
    simp only [getK, Frame.get]
    cases Nat.beq k n
    · exact getK_iff
    · exact Iff.rfl
theorem rdK_iff {F : Frame} {x : Rand} {K : AVal → Prop} : rdK F x K ↔ K (rd F x) := by
  cases x with
  | t n => exact getK_iff
  | c x => exact Iff.rfl
theorem rdsK_iff {F : Frame} {xs : List Rand} {K : List AVal → Prop} : rdsK F xs K ↔ K (xs.map (rd F)) := by
  induction xs generalizing K with
  | nil => exact Iff.rfl
  | cons x xs ih => simp only [rdsK, rdK_iff, ih, List.map_cons]
theorem dropK_iff {n : Nat} {cs : List AVal} {K : List AVal → Prop} : dropK n cs K ↔ K (cs.drop n) := by
  induction n generalizing cs with
  | zero => simp [dropK]
  | succ n ih => cases cs with
    | nil => simp [dropK]
    | cons c cs => simp [dropK, ih]
theorem takeK_iff {n : Nat} {cs : List AVal} {K : List AVal → Prop} : takeK n cs K ↔ ∃ xs, takeN n cs = some xs ∧ K xs := by
  induction n generalizing cs K with
  | zero => simp [takeK, takeN]
  | succ n ih => cases cs with
    | nil => simp [takeK, takeN]
    | cons c cs =>
      simp only [takeK, takeN, ih]
      cases takeN n cs <;> simp
theorem takeN_eq {n : Nat} {cs xs : List AVal} (h : takeN n cs = some xs) : xs = cs.take n ∧ n ≤ cs.length := by
  induction n generalizing cs xs with
  | zero => simp [takeN] at h; simp [← h]
  | succ n ih => cases cs with
    | nil => simp [takeN] at h
    | cons c cs =>
      simp only [takeN] at h
      split at h
      · rename_i ys hy
        cases h
        have := ih hy
        simp [this.1, this.2]
      · cases h
theorem overK_iff {cs ys : List AVal} {K : List AVal → Prop} : overK cs ys K ↔ K (over cs ys) := by
  induction cs generalizing ys K with
  | nil => simp [overK, over]
  | cons c cs ih => cases ys with
    | nil => simp [overK, over]
    | cons y ys => simp [overK, over, ih]
theorem setCellsK_iff {cs : List AVal} {n : Nat} {ys : List AVal} {K : List AVal → Prop} : setCellsK cs n ys K ↔ K (setCells cs n ys) := by
  induction n generalizing cs K with
  | zero => cases cs <;> simp [setCellsK, setCells, overK_iff]
  | succ n ih => cases cs with
    | nil => simp [setCellsK, setCells]
    | cons c cs => simp [setCellsK, setCells, ih]
theorem setRowK_iff {k : Nat} {cs : List AVal} {n : Nat} {ys : List AVal} {K : List AVal → Prop} : setRowK k cs n ys K ↔ K (setCells cs n ys) := by
  cases k <;> simp [setRowK, setCellsK_iff]
theorem wGet_iff {S : Store} {l : Nat} {K : Ob → Prop} : wGet S l K ↔ ∃ o, S[l]? = some o ∧ K o := by
  induction S generalizing l with
  | nil => simp [wGet]
  | cons a S ih => cases l with
    | zero => simp [wGet]
    | succ l => simp [wGet, ih]
theorem wSet_iff {S : Store} {l : Nat} {o : Ob} {K : Store → Prop} : wSet S l o K ↔ l < S.length ∧ K (S.set l o) := by
  induction S generalizing l K with
  | nil => simp [wSet]
  | cons a S ih => cases l with
    | zero => simp [wSet]
    | succ l => simp [wSet, ih]
theorem wPush_iff {S : Store} {o : Ob} {K : Nat → Store → Prop} : wPush S o K ↔ K S.length (S ++ [o]) := by
  induction S generalizing K with
  | nil => simp [wPush]
  | cons a S ih => simp [wPush, ih]
theorem wRow_iff {S : Store} {l v : Nat} {K : Nat → List AVal → Prop} : wRow S l v K ↔ ∃ k cs, S[l]? = some (.row v k cs) ∧ K k cs := by
  simp only [wRow, wGet_iff]
  constructor
  · rintro ⟨o, h1, h2⟩
    cases o with
    | row v' k cs => obtain ⟨rfl, h⟩ := h2; exact ⟨k, cs, h1, h⟩
    | dead => exact h2.elim
    | mapo v es => exact h2.elim
  · rintro ⟨k, cs, h1, h2⟩
    exact ⟨_, h1, rfl, h2⟩
theorem mkVK_iff {ag : Bool} {xs : List AVal} {K : AVal → Prop} : mkVK ag xs K ↔ (ag = true ∧ K (.agg xs)) ∨ (ag = false ∧ ∃ x, xs = [x] ∧ K x) := by
  cases ag
  · match xs with
    | [] => simp [mkVK]
    | [x] => simp [mkVK]
    | x :: y :: zs => simp [mkVK]
  · simp [mkVK]

/-! ### What an operation comes to -/
def RelF (E : Env) (fz : Nat → Prop) (w : World) (F : Frame) (tmps : Array Value) : Prop := ∀ n, Rel E fz w (F.get n) (tmps.getD n undef)

def Post (K : AVal → Store → Prop) (E : Env) (fz : Nat → Prop) (S : Store) (w : World) (v : Value) (w' : World) : Prop :=
  ∃ x S' E' fz', K x S' ∧ Ext E fz S w E' fz' S' w' ∧ St E' fz' S' w' ∧ Rel E' fz' w' x v

def RunsTo (P : Program) (r : Result Next) (Φ : Value → World → Prop) : Prop :=
  match r with
  | .ok (.value v) w' => Φ v w'
  | .ok .skip w' => Φ undef w'
  | .ok (.enter f args) w' => Calls P f args w' fun e w'' => ∃ v, e = .returned v ∧ Φ v w''
  | _ => False

theorem wp_of_runs {P : Program} {o : Oper} {a : Act} {w : World} {next : Act → World → Prop} {Q : Exit → Act → World → Prop} {Φ : Value → World → Prop}
    (h : RunsTo P ((execOp a.eval o).run P w) Φ) (hn : ∀ v w', Φ v w' → next (a.put o.dst v) w') : o.wp P a w next Q := by
  unfold Oper.wp
  generalize (execOp a.eval o).run P w = r at *
  cases r with
  | halt x w' => exact h.elim
  | ok n w' =>
    cases n <;> simp only [RunsTo] at h
    case value v => rw [Oper.upon_value]; exact hn _ _ h
    case skip => rw [Oper.upon_skip]; exact hn _ _ h
    case enter f args =>
      rw [Oper.upon_enter]
      exact h.mono fun e w'' ⟨v, he, hv⟩ => by subst he; exact hn _ _ hv

theorem Post.same {K : AVal → Store → Prop} {E : Env} {fz : Nat → Prop} {S : Store} {w : World} {x : AVal} {v : Value} (st : St E fz S w) (hk : K x S) (hr : Rel E fz w x v) : Post K E fz S w v w :=
  ⟨x, S, E, fz, hk, .refl, st, hr⟩

section
variable {E : Env} {fz : Nat → Prop} {w : World} {F : Frame} {a : Act}
theorem eval_rel (hF : RelF E fz w F a.tmps) {x : Operand} {r : Rand} (h : cRand x = some r) : Rel E fz w (rd F r) (a.eval x) := by
  cases x with
  | tmp t => simp [cRand] at h; subst h; exact hF t
  | const v =>
    simp only [cRand] at h
    split at h
    · rename_i y hy; cases h; exact absV_rel hy
    · cases h
  | func f => simp [cRand] at h; subst h; simp only [rd, Rel, Act.eval]; exact ⟨[], [], rfl, by simp [RelL], by simp [RelL]⟩
  | global g => simp [cRand] at h
theorem evals_rel (hF : RelF E fz w F a.tmps) : ∀ {xs : List Operand} {rs : List Rand}, cRands xs = some rs → RelL E fz w (rs.map (rd F)) (xs.map a.eval)
  | [], _, h => by simp [cRands] at h; subst h; simp [RelL]
  | x :: xs, _, h => by
    simp only [cRands] at h
    split at h
    · rename_i y ys h1 h2
      cases h
      simp only [List.map_cons, RelL]
      exact ⟨_, _, rfl, eval_rel hF h1, evals_rel hF h2⟩
    · cases h
end

end Go.Vc
