/-
  Functions that write the row that they are handed; the closures that they are handed read it.
-/
import Derived.Test.YtoiebdgnfjgcpaaVyO
set_option linter.unusedVariables false
set_option linter.unusedSimpArgs false
namespace Go.Vc

/-! ### One row is lent to be written, all else to be read -/
theorem St.alone {E : Env} {fz : Nat → Prop} {S : Store} {w : World} (st : St E fz S w) {p v k : Nat} {cs : List AVal} (hp : S[p]? = some (.row v k cs)) : St E (allBut E fz S p) [.row v k cs] w := by
  refine ⟨fun l o hl => ?_, fun l l' b ⟨o, q1, _⟩ ⟨o', q1', _⟩ => ?_, fun b hb => ?_, st.fresh⟩
  · cases l with
    | succ l => simp at hl
    | zero =>
      simp at hl
      subst hl
      refine (st.ok p _ hp).mono (fun _ _ h => h) (fun b hb => .inl hb) (fun _ _ => rfl) fun b hb => ⟨rfl, fun q => ?_⟩
      rcases q with q | ⟨l, hl, ho⟩
      · exact (st.own_lt ⟨_, hp, hb⟩).2 q
      · exact hl (st.sep l p b ho ⟨_, hp, hb⟩)
  · cases l <;> cases l' <;> first | rfl | (simp at q1; done) | (simp at q1'; done)
  · rcases hb with hb | ⟨l, _, ho⟩
    · exact st.fzlt b hb
    · exact (st.own_lt ho).1

theorem ACalls.lendRow {P : Program} {f : FuncId} {S : Store} {p v k : Nat} {cs : List AVal} {args : List AVal} {R K : AVal → Store → Prop} (hp : S[p]? = some (.row v k cs))
    (h : ∀ E fz w vals, St E fz S w → RelL E fz w args vals → ∃ args', ACalls P f args' [.row v k cs] R ∧ RelL E (allBut E fz S p) w args' vals)
    (hK : ∀ r S', R r S' → solid r = true ∧ ∃ cs', S' = [.row v k cs'] ∧ plainL cs' = true ∧ K r (S.set p (.row v k cs'))) : ACalls P f args S K := by
  refine ⟨fun E fz w vals st hrel => ?_⟩
  obtain ⟨args', hA, hrel'⟩ := h E fz w vals st hrel
  refine (hA.out E _ w vals (st.alone hp) hrel').mono fun e w' ⟨r, S', u, E', fz', h1, h2, h3, h4, h5⟩ => ?_
  obtain ⟨hs, cs', rfl, hpl, hk⟩ := hK r S' h5
  have hlt : p < S.length := (List.getElem?_eq_some_iff.1 hp).1
  have own0 : ∀ b, Own E [.row v k cs] b → OwnAt E S p b := fun b ⟨l, o, q1, q2⟩ => by
    cases l with
    | zero => simp at q1; subst q1; exact ⟨_, hp, q2⟩
    | succ l => simp at q1
  have nf : ∀ b, fz b → ¬ ∃ l, l ≠ p ∧ OwnAt E S l b := fun b hb ⟨l, _, ho⟩ => (st.own_lt ho).2 hb
  have fk : ∀ b, fz b → w'.heap[b]? = w.heap[b]? := fun b hb => h2.keep b (st.fzlt b hb) fun ho => (st.own_lt (own0 b ho)).2 hb
  have other : ∀ {l : Nat} {o : Ob}, l ≠ p → S[l]? = some o → ∀ b, obBlock E o = some b → w'.heap[b]? = w.heap[b]? := fun {l o} hne hl b hb =>
    h2.keep b (st.own_lt ⟨o, hl, hb⟩).1 fun ho => hne (st.sep l p b ⟨o, hl, hb⟩ (own0 b ho))
  have split : ∀ {l b : Nat}, OwnAt E' (S.set p (.row v k cs')) l b → (l = p ∧ OwnAt E' [.row v k cs'] 0 b) ∨ (l ≠ p ∧ OwnAt E S l b) := fun {l b} ⟨o, q1, q2⟩ => by
    by_cases e : l = p
    · subst e
      rw [List.getElem?_set_self hlt] at q1
      cases q1
      exact .inl ⟨rfl, _, rfl, q2⟩
    · rw [List.getElem?_set_ne (Ne.symm e)] at q1
      exact .inr ⟨e, o, q1, by rw [← (st.ok l o q1).block h2.env]; exact q2⟩
  have f1 : ∀ b, (fz' b ∧ ¬ ∃ l, l ≠ p ∧ OwnAt E S l b) → fz b ∨ Own E S b ∨ w.heap.size ≤ b := fun b ⟨hb, hn⟩ => by
    rcases h2.fznew b hb with (q | q) | q | q
    · exact .inl q
    · exact absurd q hn
    · exact .inr (.inl ⟨p, own0 b q⟩)
    · exact .inr (.inr q)
  have f2 : ∀ b, Own E' (S.set p (.row v k cs')) b → Own E S b ∨ w.heap.size ≤ b := fun b ⟨l, ho⟩ => by
    rcases split ho with ⟨_, g⟩ | ⟨_, g⟩
    · rcases h2.own b ⟨0, g⟩ with q | q
      · exact .inl ⟨p, own0 b q⟩
      · exact .inr q
    · exact .inl ⟨l, g⟩
  have f3 : ∀ (l : Nat) o, (S.set p (.row v k cs'))[l]? = some o → ObOk E' (fun b => fz' b ∧ ¬ ∃ l, l ≠ p ∧ OwnAt E S l b) w' o := fun l o hl => by
    by_cases e : l = p
    · subst e
      rw [List.getElem?_set_self hlt] at hl
      cases hl
      rcases h3.ok 0 _ rfl with ⟨q1, q2⟩ | ⟨b, base, cap, arr, T, lo, hi, q1, q2, q3, q4, q5, q6, q7⟩
      · exact .inl ⟨q1, q2⟩
      · refine .inr ⟨b, base, cap, arr, T, lo, hi, q1, q2, q3, q4, q5, RelC.mk fun i x hx => ?_, fun hf => q7 hf.1⟩
        obtain ⟨c, c1, c2, c3⟩ := q6.get hx
        exact ⟨c, c1, c2, plain_rel (fun _ _ h => h) x c (plainL_mem hpl x (List.mem_of_getElem? hx)) c3⟩
    · rw [List.getElem?_set_ne (Ne.symm e)] at hl
      exact (st.ok l o hl).mono h2.env (fun b hb => ⟨h2.frz b (.inl hb), nf b hb⟩) fk fun b hb => ⟨other e hl b hb, fun hf => hf.2 ⟨l, e, o, hl, hb⟩⟩
  have f4 : ∀ l l' b, OwnAt E' (S.set p (.row v k cs')) l b → OwnAt E' (S.set p (.row v k cs')) l' b → l = l' := fun l l' b q1 q2 => by
    have cross : ∀ {l : Nat}, l ≠ p → OwnAt E S l b → OwnAt E' [.row v k cs'] 0 b → False := fun {l} hne g1 g2 => by
      rcases h2.own b ⟨0, g2⟩ with g | g
      · exact hne (st.sep _ _ _ g1 (own0 b g))
      · have := (st.own_lt g1).1; omega
    rcases split q1 with ⟨e1, g1⟩ | ⟨e1, g1⟩ <;> rcases split q2 with ⟨e2, g2⟩ | ⟨e2, g2⟩
    · rw [e1, e2]
    · exact (cross e2 g2 g1).elim
    · exact (cross e1 g1 g2).elim
    · exact st.sep _ _ _ g1 g2
  exact ⟨r, _, u, E', fun b => fz' b ∧ ¬ ∃ l, l ≠ p ∧ OwnAt E S l b, h1, ⟨h2.env, fun b hb => ⟨h2.frz b (.inl hb), nf b hb⟩, f1, fun b hb hn => h2.keep b hb fun ho => hn ⟨p, own0 b ho⟩, f2, h2.size, h2.os, h2.output, h2.tape⟩, ⟨f3, f4, fun b hb => h3.fzlt b hb.1, h3.fresh⟩, solid_rel r u hs h4, hk⟩

/-! ### The contract -/
structure Cz where
  et : Ty
  kt : Tys
  args : Tys
  call : Ts kt → Ts args → List TV
  dec : List TV → Option (Ts kt × Ts args)
  find : List TV → Option Nat
  pre : Ts kt → List (T et) → Ts args → Prop
  fn : Ts kt → List (T et) → Ts args → List (T et)

def stZ (ver : Option Nat) (et : Ty) (ls : List (T et)) : Store := match ver with | some v => [.row v (szT et) (ls.flatMap (encT et))] | none => []
def hdZ (ver : Option Nat) (et : Ty) (n : Nat) : HF := fun l => match l with | 0 => some ⟨ver.map fun v => (0, v), szT et, n, []⟩ | _ => none
theorem st3Z {ver : Option Nat} {et : Ty} {ls : List (T et)} (h : ver = none → ls = []) : St3 (hdZ ver et ls.length) [.row et ls] (stZ ver et ls) := by
  have only : ∀ {l hd}, hdZ ver et ls.length l = some hd → l = 0 ∧ hd = ⟨ver.map fun v => (0, v), szT et, ls.length, []⟩ := fun {l hd} e => by
    cases l with
    | zero => simp only [hdZ] at e; cases e; exact ⟨rfl, rfl⟩
    | succ l => simp [hdZ] at e
  refine ⟨fun l o hl => ?_, fun l hl => ?_, fun l l' h h' p v v' e1 e2 _ _ => ?_, fun l i h p v n e1 e2 => ?_⟩
  · cases l with
    | succ l => simp at hl
    | zero =>
      simp at hl
      subst hl
      refine ⟨ver.map fun v => (0, v), rfl, ?_⟩
      cases ver with
      | none => exact h rfl
      | some v => rfl
  · cases l with
    | zero => simp at hl
    | succ l => rfl
  · rw [(only e1).1, (only e2).1]
  · rw [(only e1).2] at e2; simp at e2

def ConZ (P : Program) (f : FuncId) (c : Cz) : Prop := True ∧ flatT c.et = true ∧ (∀ xs k a, c.dec xs = some (k, a) → xs = c.call k a) ∧
  ∀ (k : Ts c.kt) (ls : List (T c.et)) (a : Ts c.args), c.pre k ls a → ∀ ver : Option Nat, (ver = none → ls = []) → ∀ ys, SimL (hdZ ver c.et ls.length) (c.call k a) ys →
    ACalls P f ys (stZ ver c.et ls) fun r S' => r = .tup [] ∧ (c.fn k ls a).length = ls.length ∧ S' = stZ ver c.et (c.fn k ls a)

def keptZ (G : List RF) : Bool := match G with | [F] => (match lookN F 0 with | some ([], _, .slf 0) => true | _ => false) | _ => false
noncomputable def tConZ (Γ : List (Nat × Ct)) (L : List (Nat × Fi)) (depth : Nat) (fi : Fi) (c : Cz) (k : Ts c.kt) (ls : List (T c.et)) (a : Ts c.args) : Prop :=
  tFunL Γ (callN Γ L depth) fi.hi fi.code fi.an fi.res (c.call k a) [argT 0 [.slf 0]] [.row c.et ls] fun xs G TS =>
    match xs, keptZ G, objAt TS 0 with
    | [], true, some (.row t ls') => (match tyEq t c.et with | some ⟨h⟩ => (h ▸ ls' : List (T c.et)) = c.fn k ls a | none => False)
    | _, _, _ => False

theorem slA_inj {loc loc' : Option (Nat × Nat)} {n n' : Nat} (h : slA loc 0 n = slA loc' 0 n') : loc = loc' ∧ (loc' ≠ none → n = n') := by
  cases loc with
  | none =>
    cases loc' with
    | none => exact ⟨rfl, fun h => absurd rfl h⟩
    | some q => obtain ⟨p, v⟩ := q; simp [slA] at h
  | some q =>
    obtain ⟨p, v⟩ := q
    cases loc' with
    | none => simp [slA] at h
    | some q' =>
      obtain ⟨p', v'⟩ := q'
      simp only [slA, AVal.sl.injEq] at h
      exact ⟨by rw [h.1, h.2.1], fun _ => h.2.2.2⟩

theorem conZ_eq {P : Program} {Γ : List (Nat × Ct)} (hΓ : Cons P Γ) {L : List (Nat × Fi)} (hL : Fis P L) {f : Nat} {fi : Fi} {c : Cz} (hf : FiOk P f fi) {depth : Nat} (hsp : fi.sp = none) {m : Nat} (hm : ∀ k a, (c.call k a).length = m) (hn : Nat.ble m fi.n = true)
    (k : Ts c.kt) (ls : List (T c.et)) (a : Ts c.args) {T : Prop} (h : T) (e : T = tConZ Γ L depth fi c k ls a) (ver : Option Nat) (hv : ver = none → ls = []) (ys : List AVal) (hy : SimL (hdZ ver c.et ls.length) (c.call k a) ys) :
    ACalls P f ys (stZ ver c.et ls) fun r S' => r = .tup [] ∧ (c.fn k ls a).length = ls.length ∧ S' = stZ ver c.et (c.fn k ls a) := by
  have h : tConZ Γ L depth fi c k ls a := e ▸ h
  unfold tConZ at h
  have hlen : ys.length ≤ fi.n := by rw [hy.length, hm]; exact Nat.le_of_ble_eq_true hn
  have hp1 : SimL (hdZ ver c.et ls.length) [.slf 0] [slA (ver.map fun v => (0, v)) 0 ls.length] := by simp only [SimL, SimV]; exact ⟨_, _, rfl, ⟨_, rfl, rfl⟩, rfl⟩
  refine (hf.out hsp (R := fun y S' => ∃ H' G' TS' zs us, (match zs, keptZ G', objAt TS' 0 with
    | [], true, some (.row t ls') => (match tyEq t c.et with | some ⟨h⟩ => (h ▸ ls' : List (Go.Vc.T c.et)) = c.fn k ls a | none => False)
    | _, _, _ => False) ∧ St3 H' TS' S' ∧ SimG H' G' [argF 0 [slA (ver.map fun v => (0, v)) 0 ls.length]] ∧ SimL H' zs us ∧ y = retA us)
    (tFunL_sound hΓ (callN_ok hΓ hL depth) h (st3Z hv) (.cons (arg_sim 0 hp1).1 .nil) hy fun zs us S' H' G' TS' q1 q2 q3 q4 => ⟨H', G', TS', zs, us, q1, q2, q3, q4, rfl⟩) hlen).weak ?_
  rintro y S' ⟨H', G', TS', zs, us, h1, st, hG, hs, rfl⟩
  split at h1
  case h_2 => exact h1.elim
  rename_i t ls' hk ho
  split at h1
  case h_2 => exact h1.elim
  rename_i h0 ht
  subst h0
  have h1 : ls' = c.fn k ls a := h1
  subst h1
  simp only [SimL] at hs
  subst hs
  have hloc : ∃ hd, H' 0 = some hd ∧ slA (ver.map fun v => (0, v)) 0 ls.length = slA hd.loc 0 hd.len := by
    unfold keptZ at hk
    split at hk
    case h_2 => cases hk
    rename_i F
    split at hk
    case h_2 => cases hk
    rename_i P0 hl
    cases hG with
    | cons hF _ =>
      have := (hF _ _ _ _ hl).on holds_nil
      simp only [SimV, argF, Frame.get, Nat.beq] at this
      exact this
  obtain ⟨hd, g1, g2⟩ := hloc
  obtain ⟨loc, q1, q2⟩ := row_get st ho
  rw [q1] at g1; cases g1
  obtain ⟨e1, e2⟩ := slA_inj g2.symm
  cases ver with
  | none =>
    cases e1
    simp only [RowAt] at q2
    have q2 : c.fn k ls a = [] := q2
    refine ⟨.tup [], fun l => l, [], .refl _, ⟨fun l l' hl _ _ => by simp at hl, fun l o hl => by simp at hl⟩, rfl, by rw [q2, hv rfl], by rw [q2]; rfl⟩
  | some v =>
    cases e1
    have e2 := e2 (by simp)
    refine ⟨.tup [], fun _ => 0, [.row v (szT c.et) ((c.fn k ls a).flatMap (encT c.et))], .refl _, ⟨fun l l' hl hl' _ => ?_, fun l o hl => ?_⟩, rfl, e2, rfl⟩
    · simp at hl hl'; omega
    · cases l with
      | zero => simp at hl; subst hl; exact ⟨_, q2, .refl _⟩
      | succ l => simp at hl

/-! ### What a closure has captured, where one row will be written -/
def viewZ (l : Nat) (TS : List TOb) : Nat → TV → Option TV
  | 0, _ => none
  | n + 1, x => match x with
    | .bb b => some (.bb b)
    | .int k i => some (.int k i)
    | .byte b => some (.byte b)
    | .str s => some (.str s)
    | .nilp => some .nilp
    | .nilf => some .nilf
    | .ros t a => some (.ros t a)
    | .cst v => some (.cst v)
    | .slf m => (match Nat.beq m l, objAt TS m with
      | true, some (.row _ _) => some (.slf 0)
      | false, some (.row t ls) => some (.ros t ls)
      | _, _ => none)
    | .ptr m off => (match Nat.beq m l, objAt TS m with
      | false, some (.cells _ cs) => (match viewL (viewZ l TS n) (cs.drop off) with | some ys => some (.rop ys) | none => none)
      | _, _ => none)
    | .fn f cs => (match viewL (viewZ l TS n) cs with | some ys => some (.fn f ys) | none => none)
    | .rop cs => (match viewL (viewZ l TS n) cs with | some ys => some (.rop ys) | none => none)
    | .agg cs => (match viewL (viewZ l TS n) cs with | some ys => some (.agg ys) | none => none)
    | _ => none

section
variable {H H0 : HF} {TS : List TOb} {S : Store} {E : Env} {fz : Nat → Prop} {w : World}
theorem viewZ_list {fz' : Nat → Prop} {go : TV → Option TV} (hgo : ∀ {x x' : TV} {y : AVal} {v : Value}, go x = some x' → SimV H x y → Rel E fz w y v → ∃ y', SimV H0 x' y' ∧ Rel E fz' w y' v) :
    ∀ {xs xs' : List TV} {ys : List AVal} {vs : List Value}, viewL go xs = some xs' → SimL H xs ys → RelL E fz w ys vs → ∃ ys', SimL H0 xs' ys' ∧ RelL E fz' w ys' vs
  | [], xs', ys, vs, h, hs, hr => by
    cases h
    simp only [SimL] at hs
    subst hs
    simp only [RelL] at hr
    exact ⟨[], by simp [SimL], by simpa [RelL] using hr⟩
  | x :: xs, xs', ys, vs, h, hs, hr => by
    simp only [viewL] at h
    split at h
    · rename_i y zs h1 h2
      cases h
      simp only [SimL] at hs
      obtain ⟨y0, ys0, rfl, s1, s2⟩ := hs
      simp only [RelL] at hr
      obtain ⟨v, us, rfl, r1, r2⟩ := hr
      obtain ⟨y', g1, g2⟩ := hgo h1 s1 r1
      obtain ⟨ys', g3, g4⟩ := viewZ_list hgo h2 s2 r2
      exact ⟨y' :: ys', by simp only [SimL]; exact ⟨_, _, rfl, g1, g3⟩, by simp only [RelL]; exact ⟨_, _, rfl, g2, g4⟩⟩
    · cases h
theorem viewZ_cells {fz' : Nat → Prop} {go : TV → Option TV} (hgo : ∀ {x x' : TV} {y : AVal} {v : Value}, go x = some x' → SimV H x y → Rel E fz w y v → ∃ y', SimV H0 x' y' ∧ Rel E fz' w y' v) {b : Nat} :
    ∀ {xs xs' : List TV} {ys : List AVal} {off : Nat}, viewL go xs = some xs' → SimL H xs ys → RelC E fz w b off ys → ∃ ys', SimL H0 xs' ys' ∧ RelC E fz' w b off ys'
  | [], xs', ys, off, h, hs, hr => by
    cases h
    exact ⟨[], by simp [SimL], by simp [RelC]⟩
  | x :: xs, xs', ys, off, h, hs, hr => by
    simp only [viewL] at h
    split at h
    · rename_i y zs h1 h2
      cases h
      simp only [SimL] at hs
      obtain ⟨y0, ys0, rfl, s1, s2⟩ := hs
      simp only [RelC] at hr
      obtain ⟨⟨c, c1, c2, r1⟩, r2⟩ := hr
      obtain ⟨y', g1, g2⟩ := hgo h1 s1 r1
      obtain ⟨ys', g3, g4⟩ := viewZ_cells hgo h2 s2 r2
      exact ⟨y' :: ys', by simp only [SimL]; exact ⟨_, _, rfl, g1, g3⟩, by simp only [RelC]; exact ⟨⟨c, c1, c2, g2⟩, g4⟩⟩
    · cases h

/-- The row is object 0 of its own store; all else is read. (fp: what counts as frozen: all that is owned but for the row) -/
theorem viewZ_rel {fp : Nat → Prop} (st3 : St3 H TS S) (st : St E fz S w) {l : Nat} {ver : Option Nat} {et : Ty} {n0 : Nat} {loc : Option (Nat × Nat)} (hl : H l = some ⟨loc, szT et, n0, []⟩) (hver : ver = loc.map (·.2)) (hfz : ∀ b, fz b → fp b)
    (hfp : ∀ m h q v b, m ≠ l → H m = some h → h.loc = some (q, v) → OwnAt E S q b → fp b) : ∀ (n : Nat) {x x' : TV} {y : AVal} {v : Value},
    viewZ l TS n x = some x' → SimV H x y → Rel E fz w y v → ∃ y', SimV (hdZ ver et n0) x' y' ∧ Rel E fp w y' v
  | 0, x, x', y, v, h, hs, hr => by cases h
  | n + 1, x, x', y, v, h, hs, hr => by
    have up : ∀ {z : AVal} {u : Value}, Rel E fz w z u → Rel E fp w z u := fun {z u} hz => hz.mono (fun _ _ h => h) hfz (fun _ _ => rfl)
    have ih := fun {x x' : TV} {y : AVal} {v : Value} => viewZ_rel st3 st hl hver hfz hfp n (x := x) (x' := x') (y := y) (v := v)
    cases x <;> simp only [viewZ] at h <;> first | (cases h; done) | skip
    case bb b => cases h; exact ⟨y, by simpa [SimV] using hs, up hr⟩
    case int k i => cases h; exact ⟨y, by simpa [SimV] using hs, up hr⟩
    case byte b => cases h; exact ⟨y, by simpa [SimV] using hs, up hr⟩
    case str s => cases h; exact ⟨y, by simpa [SimV] using hs, up hr⟩
    case nilp => cases h; exact ⟨y, by simpa [SimV] using hs, up hr⟩
    case nilf => cases h; exact ⟨y, by simpa [SimV] using hs, up hr⟩
    case ros t a => cases h; exact ⟨y, by simpa [SimV] using hs, up hr⟩
    case cst v => cases h; exact ⟨y, by simpa [SimV] using hs, up hr⟩
    case slf m =>
      split at h
      · rename_i t ls hb ho
        cases h
        have e := beq_eq hb
        subst e
        simp only [SimV] at hs
        obtain ⟨hd, e1, rfl⟩ := hs
        rw [hl] at e1; cases e1
        refine ⟨slA (ver.map fun v => (0, v)) 0 n0, by simp only [SimV]; exact ⟨_, rfl, rfl⟩, ?_⟩
        cases loc with
        | none => subst hver; exact up hr
        | some pv =>
          obtain ⟨p, v'⟩ := pv
          subst hver
          simp only [slA, Rel, Option.map_some] at hr ⊢
          exact hr
      · rename_i t ls hb ho
        cases h
        have hml := Nat.ne_of_beq_eq_false hb
        obtain ⟨loc', q1, q2⟩ := row_get st3 ho
        simp only [SimV] at hs
        obtain ⟨hd, e1, rfl⟩ := hs
        rw [q1] at e1; cases e1
        refine ⟨.ros ls.length (ls.flatMap (encT t)), by simp [SimV], ?_⟩
        cases loc' with
        | none =>
          simp only [RowAt] at q2
          subst q2
          simp only [slA, Rel] at hr
          simp only [Rel]
          exact .inl ⟨rfl, none, 0, hr⟩
        | some pv =>
          obtain ⟨p', v'⟩ := pv
          simp only [RowAt] at q2
          simp only [slA, Rel] at hr
          simp only [Rel]
          rcases hr with ⟨h0, a, rfl⟩ | ⟨b, base, cap, k, c, e1, e2, e3, rfl⟩
          · exact .inl ⟨h0, a, 0, rfl⟩
          · rcases st.ok p' _ q2 with ⟨g1, g2⟩ | ⟨b', base', cap', arr, T, lo, hi, g1, g2, g3, g4, g5, g6, g7⟩
            · rw [e1] at g1; cases g1
            · rw [e1] at g1; cases g1
              refine .inr ⟨b, base, c, hfp m _ p' v' b hml q1 rfl ⟨_, q2, by simp [obBlock, e1]⟩, e2, rfl, ?_⟩
              exact RelC.mono (fun _ _ h => h) hfz (fun _ _ => rfl) _ rfl g6
      · cases h
    case ptr m off =>
      split at h
      · rename_i k cs hb ho
        split at h
        · rename_i ys hv
          cases h
          have hml := Nat.ne_of_beq_eq_false hb
          obtain ⟨p', v', xs, q1, q2, q3⟩ := cells_get st3 ho
          simp only [SimV] at hs
          obtain ⟨hd, p2, v2, e1, e2, rfl⟩ := hs
          rw [q1] at e1; cases e1
          cases e2
          simp only [Rel] at hr
          obtain ⟨b, base, cap, k', e1, rfl⟩ := hr
          rcases st.ok p' _ q2 with ⟨g1, g2⟩ | ⟨b', base', cap', arr, T, lo, hi, g1, g2, g3, g4, g5, g6, g7⟩
          · rw [e1] at g1; cases g1
          · rw [e1] at g1; cases g1
            have hd := g6.drop off
            obtain ⟨ys', k1, k2⟩ := viewZ_cells ih hv (q3.drop off) hd
            refine ⟨.rop ys', by simp only [SimV]; exact ⟨_, rfl, k1⟩, ?_⟩
            simp only [Rel]
            exact ⟨b, base + off, hfp m _ p' v' b hml q1 rfl ⟨_, q2, by simp [obBlock, e1]⟩, rfl, k2⟩
        · cases h
      · cases h
    case fn f cs =>
      split at h
      · rename_i ys hv
        cases h
        simp only [SimV] at hs
        obtain ⟨xs, rfl, hs⟩ := hs
        simp only [Rel] at hr
        obtain ⟨vs, us, rfl, r1, r2⟩ := hr
        obtain ⟨ys', k1, k2⟩ := viewZ_list ih hv hs r2
        refine ⟨.fn (.func f) [] ys', by simp only [SimV]; exact ⟨_, rfl, k1⟩, ?_⟩
        simp only [Rel]
        exact ⟨vs, us, rfl, by simpa [RelL] using r1, k2⟩
      · cases h
    case rop cs =>
      split at h
      · rename_i ys hv
        cases h
        simp only [SimV] at hs
        obtain ⟨xs, rfl, hs⟩ := hs
        simp only [Rel] at hr
        obtain ⟨b, off, r1, rfl, r2⟩ := hr
        obtain ⟨ys', k1, k2⟩ := viewZ_cells ih hv hs r2
        refine ⟨.rop ys', by simp only [SimV]; exact ⟨_, rfl, k1⟩, ?_⟩
        simp only [Rel]
        exact ⟨b, off, hfz b r1, rfl, k2⟩
      · cases h
    case agg cs =>
      split at h
      · rename_i ys hv
        cases h
        simp only [SimV] at hs
        obtain ⟨xs, rfl, hs⟩ := hs
        simp only [Rel] at hr
        obtain ⟨vs, rfl, r1, r2⟩ := hr
        obtain ⟨ys', k1, k2⟩ := viewZ_list ih hv hs r1
        refine ⟨.agg ys', by simp only [SimV]; exact ⟨_, rfl, k1⟩, ?_⟩
        simp only [Rel]
        exact ⟨vs, rfl, k2, r2⟩
      · cases h
end

/-! ### As a summary -/
noncomputable def czEv (c : Cz) (xs : List TV) (G : List RF) (TS : List TOb) : Option (List Prop × TV × List RF × List TOb) :=
  match c.find xs with
  | some l => (match objAt TS l, viewL (viewZ l TS 8) xs with
    | some (.row t ls), some xs' => (match tyEq t c.et, c.dec xs' with
      | some ⟨h⟩, some (k, a) => some ([c.pre k (h ▸ ls) a], .tup [], G, setOb TS l (.row c.et (c.fn k (h ▸ ls) a)))
      | _, _ => none)
    | _, _ => none)
  | none => none
noncomputable def czFi (c : Cz) : Fi := ⟨0, .ret, [], .d, ⟨[], []⟩, some ⟨czEv c⟩⟩

theorem flat_plain_rows {t : Ty} (h : flatT t = true) : ∀ ls : List (T t), plainL (ls.flatMap (encT t)) = true
  | [] => rfl
  | x :: ls => by
    have h1 := flat_plain t x h
    have h2 := flat_plain_rows h ls
    rw [List.flatMap_cons]
    have : ∀ (xs ys : List AVal), plainL xs = true → plainL ys = true → plainL (xs ++ ys) = true := fun xs ys q1 q2 => by
      induction xs with
      | nil => exact q2
      | cons a r ih => simp only [plainL, Bool.and_eq_true, List.cons_append] at *; exact ⟨q1.1, ih q1.2⟩
    exact this _ _ h1 h2

theorem cz_sum {P : Program} {f : FuncId} {c : Cz} (hc : ConZ P f c) : SpOk P f ⟨czEv c⟩ := by
  intro xs G TS ps y G' TS' h hps H S AG ys st hG hs
  unfold czEv at h
  simp only at h
  split at h
  case h_2 => cases h
  rename_i l _
  split at h
  case h_2 => cases h
  rename_i t ls xs' ho hv
  split at h
  case h_2 => cases h
  rename_i ht k a hte hd
  subst ht
  cases h
  have hpre := hps.cons.1
  obtain ⟨hcal, hflat, hdec, hmain⟩ := hc
  have he := hdec _ _ _ hd
  subst he
  obtain ⟨loc, q1, q2⟩ := row_get st ho
  have ho' := ho
  cases loc with
  | none =>
    simp only [RowAt] at q2
    subst q2
    refine ACalls.lendV (Q := fun r => r = .tup [] ∧ c.fn k [] a = []) (fun E fz w vals stE hr => ?_) fun r hr => ?_
    · obtain ⟨ys', k1, k2⟩ := viewZ_list (viewZ_rel (fp := frozen E fz S) (ver := none) st stE q1 rfl (fun b hb => .inl hb) (fun m h q v b _ _ _ hb => .inr ⟨q, hb⟩) 8) hv hs hr
      refine ⟨ys', ACallsMono (hmain k [] a hpre none (fun _ => rfl) ys' k1) fun r S' ⟨e1, e2, e3⟩ => ?_, k2⟩
      exact ⟨by rw [e1]; rfl, e1, List.length_eq_zero_iff.1 (by rw [e2]; rfl)⟩
    · obtain ⟨rfl, e⟩ := hr
      refine ⟨H, ?_, hG, by simp only [SimV]; exact ⟨[], rfl, by simp [SimL]⟩⟩
      have e3 : setOb TS l (.row c.et (c.fn k [] a)) = TS := by
        rw [setOb_eq]
        apply List.ext_getElem?
        intro i
        by_cases h : i = l
        · subst h; rw [List.getElem?_set_self (obj_lt ho)]; rw [objAt_eq] at ho; rw [ho, e]
        · rw [List.getElem?_set_ne (Ne.symm h)]
      show St3 H (setOb TS l (.row c.et (c.fn k [] a))) S
      rw [e3]; exact st
  | some pv =>
    obtain ⟨p, ver⟩ := pv
    have hp : S[p]? = some (.row ver (szT c.et) (ls.flatMap (encT c.et))) := q2
    refine ACalls.lendRow (R := fun r S' => r = .tup [] ∧ (c.fn k ls a).length = ls.length ∧ S' = stZ (some ver) c.et (c.fn k ls a)) hp (fun E fz w vals stE hr => ?_) fun r S' ⟨e1, e2, e3⟩ => ?_
    · obtain ⟨ys', k1, k2⟩ := viewZ_list (viewZ_rel (fp := allBut E fz S p) (ver := some ver) st stE q1 rfl (fun b hb => .inl hb) (fun m h q v b hm g1 g2 hb => .inr ⟨q, fun e => hm (by subst e; exact st.inj _ _ _ _ _ _ _ g1 q1 g2 rfl), hb⟩) 8) hv hs hr
      exact ⟨ys', hmain k ls a hpre (some ver) (fun e => by cases e) ys' k1, k2⟩
    · refine ⟨by rw [e1]; rfl, _, e3, flat_plain_rows hflat _, H, ?_, hG, by rw [e1]; simp only [SimV]; exact ⟨[], rfl, by simp [SimL]⟩⟩
      rw [setOb_eq]
      refine st.put (obj_lt ho) q1 rfl ⟨some (p, ver), by rw [q1, e2], ?_⟩
      show (S.set p _)[p]? = some _
      rw [List.getElem?_set_self (List.getElem?_eq_some_iff.1 hp).1]
theorem cz_fok {P : Program} {f : FuncId} {c : Cz} (hc : ConZ P f c) : FiOk P f (czFi c) :=
  ⟨fun h => (by cases h), fun h => (by cases h), fun s hs => by cases hs; exact cz_sum hc⟩
end Go.Vc
