/-
  Closures that a library's function calls: what a closure has captured, as plain values; contracts of closures that only read; slices.SortFunc as a summary.
-/
import Derived.Test.YtfelfimcnidplaaVyM
set_option linter.unusedVariables false
set_option linter.unusedSimpArgs false
namespace Go.Vc

/-! ### What a closure has captured, as plain values -/
def viewL (go : TV → Option TV) : List TV → Option (List TV)
  | [] => some []
  | x :: xs => match go x, viewL go xs with | some y, some ys => some (y :: ys) | _, _ => none
/-- The value as it reads where nothing but object l will be written. -/
def viewV (l : Nat) (TS : List TOb) : Nat → TV → Option TV
  | 0, _ => none
  | n + 1, x => match x with
    | .bb b => some (.bb b)
    | .int k i => some (.int k i)
    | .byte b => some (.byte b)
    | .str s => some (.str s)
    | .nilp => some .nilp
    | .nilf => some .nilf
    | .ros t a => some (.ros t a)
    | .slf m => (match Nat.beq m l, objAt TS m with | false, some (.row t ls) => some (.ros t ls) | _, _ => none)
    | .ptr m off => (match Nat.beq m l, objAt TS m with
      | false, some (.cells _ cs) => (match viewL (viewV l TS n) (cs.drop off) with | some ys => some (.rop ys) | none => none)
      | _, _ => none)
    | .fn f cs => (match viewL (viewV l TS n) cs with | some ys => some (.fn f ys) | none => none)
    | .rop cs => (match viewL (viewV l TS n) cs with | some ys => some (.rop ys) | none => none)
    | .agg cs => (match viewL (viewV l TS n) cs with | some ys => some (.agg ys) | none => none)
    | _ => none

/-- All that is owned, but for the object at place p, is not written any more. -/
def allBut (E : Env) (fz : Nat → Prop) (S : Store) (p : Nat) (b : Nat) : Prop := fz b ∨ ∃ l, l ≠ p ∧ OwnAt E S l b

section
variable {H : HF} {TS : List TOb} {S : Store} {E : Env} {fz : Nat → Prop} {w : World}

theorem view_list {fz' : Nat → Prop} {go : TV → Option TV} (hgo : ∀ {x x' : TV} {y : AVal} {v : Value}, go x = some x' → SimV H x y → Rel E fz w y v → ∃ y', (∀ H', SimV H' x' y') ∧ Rel E fz' w y' v) :
    ∀ {xs xs' : List TV} {ys : List AVal} {vs : List Value}, viewL go xs = some xs' → SimL H xs ys → RelL E fz w ys vs → ∃ ys', (∀ H', SimL H' xs' ys') ∧ RelL E fz' w ys' vs
  | [], xs', ys, vs, h, hs, hr => by
    cases h
    simp only [SimL] at hs
    subst hs
    simp only [RelL] at hr
    exact ⟨[], fun _ => by simp [SimL], by simpa [RelL] using hr⟩
  | x :: xs, xs', ys, vs, h, hs, hr => by
    simp only [viewL] at h
    split at h
    · rename_i y zs h1 h2
      cases h
      simp only [SimL] at hs
      obtain ⟨y0, ys0, rfl, s1, s2⟩ := hs
      simp only [RelL] at hr
      obtain ⟨v, us, rfl, r1, r2⟩ := hr
      obtain ⟨y', g1, g2⟩ := hgo h1 s1 r1
      obtain ⟨ys', g3, g4⟩ := view_list hgo h2 s2 r2
      exact ⟨y' :: ys', fun H' => by simp only [SimL]; exact ⟨_, _, rfl, g1 H', g3 H'⟩, by simp only [RelL]; exact ⟨_, _, rfl, g2, g4⟩⟩
    · cases h
theorem view_cells {fz' : Nat → Prop} {go : TV → Option TV} (hgo : ∀ {x x' : TV} {y : AVal} {v : Value}, go x = some x' → SimV H x y → Rel E fz w y v → ∃ y', (∀ H', SimV H' x' y') ∧ Rel E fz' w y' v) {b : Nat} :
    ∀ {xs xs' : List TV} {ys : List AVal} {off : Nat}, viewL go xs = some xs' → SimL H xs ys → RelC E fz w b off ys → ∃ ys', (∀ H', SimL H' xs' ys') ∧ RelC E fz' w b off ys'
  | [], xs', ys, off, h, hs, hr => by
    cases h
    exact ⟨[], fun _ => by simp [SimL], by simp [RelC]⟩
  | x :: xs, xs', ys, off, h, hs, hr => by
    simp only [viewL] at h
    split at h
    · rename_i y zs h1 h2
      cases h
      simp only [SimL] at hs
      obtain ⟨y0, ys0, rfl, s1, s2⟩ := hs
      simp only [RelC] at hr
      obtain ⟨⟨c, c1, c2, r1⟩, r2⟩ := hr
      obtain ⟨y', g1, g2⟩ := hgo h1 s1 r1
      obtain ⟨ys', g3, g4⟩ := view_cells hgo h2 s2 r2
      exact ⟨y' :: ys', fun H' => by simp only [SimL]; exact ⟨_, _, rfl, g1 H', g3 H'⟩, by simp only [RelC]; exact ⟨⟨c, c1, c2, g2⟩, g4⟩⟩
    · cases h

/-- **The view is right: nothing but the object at place p is written.** -/
theorem view_rel (st3 : St3 H TS S) (st : St E fz S w) {l p : Nat} (hp : ∀ m h q v, m ≠ l → H m = some h → h.loc = some (q, v) → q ≠ p) : ∀ (n : Nat) {x x' : TV} {y : AVal} {v : Value},
    viewV l TS n x = some x' → SimV H x y → Rel E fz w y v → ∃ y', (∀ H', SimV H' x' y') ∧ Rel E (allBut E fz S p) w y' v
  | 0, x, x', y, v, h, hs, hr => by cases h
  | n + 1, x, x', y, v, h, hs, hr => by
    have up : ∀ {z : AVal} {u : Value}, Rel E fz w z u → Rel E (allBut E fz S p) w z u := fun {z u} hz => hz.mono (fun _ _ h => h) (fun b hb => .inl hb) (fun _ _ => rfl)
    have ih := fun {x x' : TV} {y : AVal} {v : Value} => view_rel st3 st hp n (x := x) (x' := x') (y := y) (v := v)
    cases x <;> simp only [viewV] at h <;> first | (cases h; done) | skip
    case bb b => cases h; exact ⟨y, fun _ => by simpa [SimV] using hs, up hr⟩
    case int k i => cases h; exact ⟨y, fun _ => by simpa [SimV] using hs, up hr⟩
    case byte b => cases h; exact ⟨y, fun _ => by simpa [SimV] using hs, up hr⟩
    case str s => cases h; exact ⟨y, fun _ => by simpa [SimV] using hs, up hr⟩
    case nilp => cases h; exact ⟨y, fun _ => by simpa [SimV] using hs, up hr⟩
    case nilf => cases h; exact ⟨y, fun _ => by simpa [SimV] using hs, up hr⟩
    case ros t a => cases h; exact ⟨y, fun _ => by simpa [SimV] using hs, up hr⟩
    case slf m =>
      split at h
      · rename_i t ls hb ho
        cases h
        have hml := Nat.ne_of_beq_eq_false hb
        obtain ⟨loc, q1, q2⟩ := row_get st3 ho
        simp only [SimV] at hs
        obtain ⟨hd, e1, rfl⟩ := hs
        rw [q1] at e1; cases e1
        refine ⟨.ros ls.length (ls.flatMap (encT t)), fun _ => by simp [SimV], ?_⟩
        cases loc with
        | none =>
          simp only [RowAt] at q2
          subst q2
          simp only [slA, Rel] at hr
          simp only [Rel]
          exact .inl ⟨rfl, none, 0, hr⟩
        | some pv =>
          obtain ⟨p', v'⟩ := pv
          simp only [RowAt] at q2
          simp only [slA, Rel] at hr
          simp only [Rel]
          rcases hr with ⟨h0, a, rfl⟩ | ⟨b, base, cap, k, c, e1, e2, e3, rfl⟩
          · exact .inl ⟨h0, a, 0, rfl⟩
          · rcases st.ok p' _ q2 with ⟨g1, g2⟩ | ⟨b', base', cap', arr, T, lo, hi, g1, g2, g3, g4, g5, g6, g7⟩
            · rw [e1] at g1; cases g1
            · rw [e1] at g1; cases g1
              refine .inr ⟨b, base, c, .inr ⟨p', hp m _ p' v' hml q1 rfl, _, q2, by simp [obBlock, e1]⟩, e2, rfl, ?_⟩
              exact RelC.mono (fun _ _ h => h) (fun b hb => .inl hb) (fun _ _ => rfl) _ rfl g6
      · cases h
    case ptr m off =>
      split at h
      · rename_i k cs hb ho
        split at h
        · rename_i ys hv
          cases h
          have hml := Nat.ne_of_beq_eq_false hb
          obtain ⟨p', v', xs, q1, q2, q3⟩ := cells_get st3 ho
          simp only [SimV] at hs
          obtain ⟨hd, p2, v2, e1, e2, rfl⟩ := hs
          rw [q1] at e1; cases e1
          cases e2
          simp only [Rel] at hr
          obtain ⟨b, base, cap, k', e1, rfl⟩ := hr
          rcases st.ok p' _ q2 with ⟨g1, g2⟩ | ⟨b', base', cap', arr, T, lo, hi, g1, g2, g3, g4, g5, g6, g7⟩
          · rw [e1] at g1; cases g1
          · rw [e1] at g1; cases g1
            have hd := g6.drop off
            obtain ⟨ys', k1, k2⟩ := view_cells ih hv (q3.drop off) hd
            refine ⟨.rop ys', fun H' => by simp only [SimV]; exact ⟨_, rfl, k1 H'⟩, ?_⟩
            simp only [Rel]
            exact ⟨b, base + off, .inr ⟨p', hp m _ p' v' hml q1 rfl, _, q2, by simp [obBlock, e1]⟩, rfl, k2⟩
        · cases h
      · cases h
    case fn f cs =>
      split at h
      · rename_i ys hv
        cases h
        simp only [SimV] at hs
        obtain ⟨xs, rfl, hs⟩ := hs
        simp only [Rel] at hr
        obtain ⟨vs, us, rfl, r1, r2⟩ := hr
        obtain ⟨ys', k1, k2⟩ := view_list ih hv hs r2
        refine ⟨.fn (.func f) [] ys', fun H' => by simp only [SimV]; exact ⟨_, rfl, k1 H'⟩, ?_⟩
        simp only [Rel]
        exact ⟨vs, us, rfl, by simpa [RelL] using r1, k2⟩
      · cases h
    case rop cs =>
      split at h
      · rename_i ys hv
        cases h
        simp only [SimV] at hs
        obtain ⟨xs, rfl, hs⟩ := hs
        simp only [Rel] at hr
        obtain ⟨b, off, r1, rfl, r2⟩ := hr
        obtain ⟨ys', k1, k2⟩ := view_cells ih hv hs r2
        refine ⟨.rop ys', fun H' => by simp only [SimV]; exact ⟨_, rfl, k1 H'⟩, ?_⟩
        simp only [Rel]
        exact ⟨b, off, .inl r1, rfl, k2⟩
      · cases h
    case agg cs =>
      split at h
      · rename_i ys hv
        cases h
        simp only [SimV] at hs
        obtain ⟨xs, rfl, hs⟩ := hs
        simp only [Rel] at hr
        obtain ⟨vs, rfl, r1, r2⟩ := hr
        obtain ⟨ys', k1, k2⟩ := view_list ih hv hs r1
        refine ⟨.agg ys', fun H' => by simp only [SimV]; exact ⟨_, rfl, k1 H'⟩, ?_⟩
        simp only [Rel]
        exact ⟨vs, rfl, k2, r2⟩
      · cases h
end

/-! ### Functions that only read what they have captured -/
def appL : List TV → List TV → List TV
  | [], ys => ys
  | x :: xs, ys => x :: appL xs ys
structure Cr where
  args : Tys
  kt : Tys
  caps : Ts kt → List TV
  dec : List TV → Option (Ts kt)
  pre : Ts kt → Ts args → Prop
  rt : Ty
  fn : Ts kt → Ts args → T rt

noncomputable def tConR (Γ : List (Nat × Ct)) (L : List (Nat × Fi)) (depth : Nat) (fi : Fi) (c : Cr) (k : Ts c.kt) (x : Ts c.args) : Prop :=
  tFunL Γ (callN Γ L depth) fi.hi fi.code fi.an fi.res (appL (tvAs c.args x) (c.caps k)) [] [] fun xs _ TS =>
    match distinct (ownN [.val c.rt] xs) with
    | true => resK TS [.val c.rt] xs fun y => eqR [.val c.rt] y (c.fn k x)
    | false => False

def ConR (P : Program) (f : FuncId) (c : Cr) : Prop := callable P f = true ∧ (∀ xs k, c.dec xs = some k → xs = c.caps k) ∧
  ∀ (k : Ts c.kt) (x : Ts c.args), c.pre k x → ∀ ys, (∀ H, SimL H (c.caps k) ys) → ACalls P f (encAs c.args x ++ ys) [] fun r _ => r = encA c.rt (c.fn k x)

section
variable {P : Program} {Γ : List (Nat × Ct)}
theorem appL_eq : ∀ (xs ys : List TV), appL xs ys = xs ++ ys
  | [], ys => rfl
  | x :: xs, ys => by rw [appL, appL_eq xs ys]; rfl

/-- A function's contract from its typed conditions, at whatever plain arguments. -/
theorem fun_of (hΓ : Cons P Γ) {L : List (Nat × Fi)} (hL : Fis P L) {f : Nat} {fi : Fi} (hf : FiOk P f fi) {depth : Nat} (hsp : fi.sp = none) {res : List RTy} {z0 : RTs res} {xs0 : List TV} {ys0 : List AVal} (hn : ys0.length ≤ fi.n) (hs0 : SimL (fun _ => none) xs0 ys0)
    (h : tFunL Γ (callN Γ L depth) fi.hi fi.code fi.an fi.res xs0 [] [] fun xs _ TS => match distinct (ownN res xs) with | true => resK TS res xs fun y => eqR res y z0 | false => False) : ACalls P f ys0 [] (resR res z0) := by
  refine (hf.out hsp (R := fun r S' => ∃ H' TS' zs us, (match distinct (ownN res zs) with | true => resK TS' res zs fun y => eqR res y z0 | false => False) ∧ St3 H' TS' S' ∧ SimL H' zs us ∧ r = retA us)
    (tFunL_sound hΓ (callN_ok hΓ hL depth) h St3.nil .nil hs0 fun zs us S' H' G' TS' q1 q2 q3 q4 => ⟨H', TS', zs, us, q1, q2, q4, rfl⟩) hn).weak ?_
  rintro r S' ⟨H', TS', zs, us, h1, h2, h3, rfl⟩
  split at h1
  · rename_i hd
    obtain ⟨z, L, ys', g1, g2, g3, g4, g5, _⟩ := resK_sound h2 res 0 h1 h3 hd
    have e := eqR_eq res g1
    subst e
    refine ⟨retA ys', fun l => (L.map (·.1)).getD l 0, L.map (·.2), retA_le g2, ⟨fun l l' hl hl' e => ?_, fun l o hl => ?_⟩, ys', g3, rfl⟩
    · have h1 : l < (L.map (·.1)).length := by simpa using hl
      have h2 : l' < (L.map (·.1)).length := by simpa using hl'
      simp only [List.getD_eq_getElem?_getD, List.getElem?_eq_getElem h1, List.getElem?_eq_getElem h2, Option.getD_some] at e
      exact (List.getElem_inj g5).1 e
    · rw [List.getElem?_map] at hl
      cases hp : L[l]? with
      | none => rw [hp] at hl; cases hl
      | some p =>
        rw [hp] at hl
        simp at hl
        subst hl
        obtain ⟨o0, k1, k2⟩ := g4 p (List.mem_of_getElem? hp)
        refine ⟨o0, ?_, k2⟩
        simp only [List.getD_eq_getElem?_getD, List.getElem?_map, hp, Option.map_some, Option.getD_some]
        exact k1
  · exact h1.elim

theorem conR_eq (hΓ : Cons P Γ) {L : List (Nat × Fi)} (hL : Fis P L) {f : Nat} {fi : Fi} {c : Cr} (hf : FiOk P f fi) {depth : Nat} (hsp : fi.sp = none) {m : Nat} (hm : ∀ k, (c.caps k).length = m) (hn : Nat.ble (lenTys c.args + m) fi.n = true) (k : Ts c.kt) (x : Ts c.args) {T : Prop} (h : T) (e : T = tConR Γ L depth fi c k x)
    (ys : List AVal) (hy : ∀ H, SimL H (c.caps k) ys) : ACalls P f (encAs c.args x ++ ys) [] fun r _ => r = encA c.rt (c.fn k x) := by
  have h : tConR Γ L depth fi c k x := e ▸ h
  unfold tConR at h
  rw [appL_eq] at h
  refine ACallsMono (fun_of hΓ hL hf hsp ?_ ((tvAs_sim c.args x).append (hy _)) h) fun r S' hr => ?_
  · rw [List.length_append, encAs_length, (hy fun _ => none).length, hm]; exact Nat.le_of_ble_eq_true hn
  · obtain ⟨ys', h1, rfl⟩ := hr
    simp only [resA] at h1
    obtain ⟨ys'', rfl, rfl, _⟩ := h1
    rfl
end

/-! ### A closure that only reads, called where it stands -/
def baseT : Ty → Bool
  | .int _ | .str | .bool => true
  | _ => false
theorem base_solid : ∀ {t : Ty} (x : T t), baseT t = true → solid (encA t x) = true
  | .int k, x, _ => rfl
  | .str, x, _ => rfl
  | .bool, x, _ => rfl
  | .st _, _, h => by cases h
  | .sl _, _, h => by cases h

/-- What is owned is lent to a function that only reads; it answers plain data. (What is handed to it may be read in a world of its own.) -/
theorem ACalls.lendV {P : Program} {f : FuncId} {S : Store} {args : List AVal} {Q : AVal → Prop} {K : AVal → Store → Prop}
    (h : ∀ E fz w vals, St E fz S w → RelL E fz w args vals → ∃ args', ACalls P f args' [] (fun r _ => solid r = true ∧ Q r) ∧ RelL E (frozen E fz S) w args' vals) (hK : ∀ r, Q r → K r S) : ACalls P f args S K := by
  refine ⟨fun E fz w vals st hrel => ?_⟩
  have no : ∀ b, ¬ Own E [] b := fun b ⟨l, o, h, _⟩ => by simp at h
  obtain ⟨args', h, hrel'⟩ := h E fz w vals st hrel
  refine (h.out E _ w vals st.freeze hrel').mono fun e w' ⟨r, S', v, E', fz', h1, h2, h3, h4, h5, h6⟩ => ?_
  have hh : ∀ b, b < w.heap.size → w'.heap[b]? = w.heap[b]? := fun b hb => h2.keep b hb (no b)
  have back : ∀ (l b : Nat), OwnAt E' S l b → OwnAt E S l b := fun l b ⟨o, q1, q2⟩ => ⟨o, q1, by rw [← (st.ok l o q1).block h2.env]; exact q2⟩
  have nf : ∀ b, fz b → ¬ Own E S b := fun b hb ⟨l, ho⟩ => (st.own_lt ho).2 hb
  refine ⟨r, S, v, E', fun b => fz' b ∧ ¬ Own E S b, h1, ⟨h2.env, fun b hb => ⟨h2.frz b (.inl hb), nf b hb⟩, fun b ⟨hb, hn⟩ => ?_, fun b hb _ => hh b hb, fun b ⟨l, ho⟩ => .inl ⟨l, back l b ho⟩, h2.size, h2.os, h2.output, h2.tape⟩,
    ⟨fun l o hl => ?_, fun l l' b q1 q2 => st.sep _ _ _ (back _ _ q1) (back _ _ q2), fun b hb => h3.fzlt b hb.1, h3.fresh⟩, solid_rel r v h5 h4, hK r h6⟩
  · rcases h2.fznew b hb with (q | q) | q | q
    · exact .inl q
    · exact absurd q hn
    · exact absurd q (no b)
    · exact .inr (.inr q)
  · refine (st.ok l o hl).mono h2.env (fun b hb => ⟨h2.frz b (.inl hb), nf b hb⟩) (fun b hb => hh b (st.fzlt b hb)) fun b hb => ⟨hh b (st.own_lt ⟨o, hl, hb⟩).1, fun q => q.2 ⟨l, o, hl, hb⟩⟩

def takeX : Nat → List TV → List TV
  | 0, _ => []
  | _ + 1, [] => []
  | n + 1, x :: xs => x :: takeX n xs
def dropX : Nat → List TV → List TV
  | 0, xs => xs
  | _ + 1, [] => []
  | n + 1, _ :: xs => dropX n xs
theorem take_drop_X : ∀ (n : Nat) (xs : List TV), takeX n xs ++ dropX n xs = xs
  | 0, xs => rfl
  | n + 1, [] => rfl
  | n + 1, x :: xs => by rw [takeX, dropX, List.cons_append, take_drop_X n xs]
theorem SimL.split {H : HF} : ∀ {xs zs : List TV} {ys : List AVal}, SimL H (xs ++ zs) ys → ∃ us ws, ys = us ++ ws ∧ SimL H xs us ∧ SimL H zs ws
  | [], zs, ys, h => ⟨[], ys, rfl, by simp [SimL], h⟩
  | x :: xs, zs, ys, h => by
    simp only [List.cons_append, SimL] at h
    obtain ⟨y, ys', rfl, h1, h2⟩ := h
    obtain ⟨us, ws, rfl, g1, g2⟩ := SimL.split h2
    exact ⟨y :: us, ws, rfl, by simp only [SimL]; exact ⟨_, _, rfl, h1, g1⟩, g2⟩
theorem relL_split {E : Env} {fz : Nat → Prop} {w : World} : ∀ {xs zs : List AVal} {vs : List Value}, RelL E fz w (xs ++ zs) vs → ∃ us ws, vs = us ++ ws ∧ RelL E fz w xs us ∧ RelL E fz w zs ws
  | [], zs, vs, h => ⟨[], vs, rfl, by simp [RelL], h⟩
  | x :: xs, zs, vs, h => by
    simp only [List.cons_append, RelL] at h
    obtain ⟨v, vs', rfl, h1, h2⟩ := h
    obtain ⟨us, ws, rfl, g1, g2⟩ := relL_split h2
    exact ⟨v :: us, ws, rfl, by simp only [RelL]; exact ⟨_, _, rfl, h1, g1⟩, g2⟩

noncomputable def crEv (c : Cr) (xs : List TV) (G : List RF) (TS : List TOb) : Option (List Prop × TV × List RF × List TOb) :=
  match decAs TS c.args (takeX (lenTys c.args) xs), pureL (takeX (lenTys c.args) xs), baseT c.rt, viewL (viewV (lenT TS) TS 8) (dropX (lenTys c.args) xs) with
  | some a, true, true, some cs => (match c.dec cs with
    | some k => some ([c.pre k a], tvA c.rt (c.fn k a), G, TS)
    | none => none)
  | _, _, _, _ => none
noncomputable def crFi (c : Cr) : Fi := ⟨0, .ret, [], .d, ⟨[], []⟩, some ⟨crEv c⟩⟩

theorem cr_sum {P : Program} {f : Nat} {c : Cr} (hc : ConR P f c) : SpOk P f ⟨crEv c⟩ := by
  intro xs G TS ps y G' TS' h hps H S AG ys st hG hs
  unfold crEv at h
  simp only at h
  split at h
  case h_2 => cases h
  rename_i a cs hd hp hb hv
  split at h
  case h_2 => cases h
  rename_i k hk
  cases h
  have hpre := hps.cons.1
  rw [← take_drop_X (lenTys c.args) xs] at hs
  obtain ⟨us, ws, rfl, s1, s2⟩ := hs.split
  refine ACalls.lendV (Q := fun r => r = encA c.rt (c.fn k a)) (fun E fz w vals stE hr => ?_) fun r hr => ?_
  · obtain ⟨v1, v2, rfl, r1, r2⟩ := relL_split hr
    have e1 := decAs_rel st (fz' := fz) (fun _ h => h) c.args hd s1 (.inl hp) r1
    have hl : ∀ m h q v, m ≠ lenT TS → H m = some h → h.loc = some (q, v) → q ≠ S.length := fun m h q v _ g1 g2 e => by
      have := st.lt g1 g2
      omega
    obtain ⟨ys', k1, k2⟩ := view_list (view_rel st stE hl 8) hv s2 r2
    have ef : ∀ b, allBut E fz S S.length b → frozen E fz S b := fun b hb => by
      rcases hb with hb | ⟨l, _, hb⟩
      · exact .inl hb
      · exact .inr ⟨l, hb⟩
    refine ⟨encAs c.args a ++ ys', ?_, (e1.mono (fun _ _ h => h) (fun b hb => .inl hb) (fun _ _ => rfl)).append (k2.mono (fun _ _ h => h) ef (fun _ _ => rfl))⟩
    have e := hc.2.1 _ _ hk
    rw [e] at k1
    exact ACallsMono (hc.2.2 k a hpre ys' k1) fun r _ hr => ⟨by rw [hr]; exact base_solid _ hb, hr⟩
  · subst hr
    exact ⟨H, st, hG, tvA_sim _ _⟩
theorem cr_fok {P : Program} {f : FuncId} {c : Cr} (hc : ConR P f c) : FiOk P f (crFi c) :=
  ⟨fun _ => hc.1, fun h => (by cases h), fun s hs => by cases hs; exact cr_sum hc⟩
end Go.Vc
