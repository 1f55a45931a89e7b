/-
  A whole function: from its conditions to its contract. And how contracts are used.
-/
import Derived.Test.YtkemhbclkglmbaaVxN
set_option linter.unusedVariables false
set_option linter.unusedSimpArgs false
namespace Go.Vc

def cRes (P : Program) : List ResultVar → Option (List RRes)
  | [] => some []
  | .tmp t :: rs => (match cRes P rs with | some l => some (.tmp t :: l) | none => none)
  | .cell a t :: rs => (match P.info? t, P.underlying t, cRes P rs with
    | some i, some u, some l => if isAggD u then some (.cell a i.size true :: l) else some (.cell a 1 false :: l)
    | _, _, _ => none)

theorem draw_sound (P : Program) (N : Nat) : DrawSound P N := fun _ _ _ _ _ _ hc hok hf _ _ _ _ _ _ _ st hF hN h => draw_region hc hok hf st hF hN h

section
variable {P : Program}

theorem argF_get : ∀ (xs : List AVal) (i t : Nat), (argF i xs).get t = if i ≤ t then (match xs[t - i]? with | some x => x | none => .junk) else .junk
  | [], i, t => by simp [argF, Frame.get]
  | x :: xs, i, t => by
    simp only [argF, Frame.get]
    cases h : Nat.beq i t with
    | true =>
      have e : i = t := Nat.eq_of_beq_eq_true h
      subst e
      simp
    | false =>
      have e : i ≠ t := Nat.ne_of_beq_eq_false h
      simp only [argF_get xs (i + 1) t]
      by_cases hle : i ≤ t
      · rw [if_pos hle, if_pos (by omega), show t - i = (t - (i + 1)) + 1 by omega]
        simp
      · rw [if_neg hle, if_neg (by omega)]

theorem res_rel {E : Env} {fz : Nat → Prop} {S : Store} {w : World} {F : Frame} {tmps : Array Value} (st : St E fz S w) (hF : RelF E fz w F tmps) : ∀ (rs : List ResultVar) (l : List RRes) {K : List AVal → Prop}, cRes P rs = some l → wRes F S K l →
    ∃ (xs : List AVal) (vs : List Value), (rs.mapM fun r => (match r with | .tmp t => pure (tmps.getD t undef) | .cell a t => do loadVar t (← asAddr (tmps.getD a undef)) : Sem Value)).run P w = .ok vs w ∧ RelL E fz w xs vs ∧ K xs
  | [], l, K, hc, h => by
    simp only [cRes] at hc
    cases hc
    exact ⟨[], [], by simp, by simp [RelL], h⟩
  | .tmp t :: rs, l, K, hc, h => by
    simp only [cRes] at hc
    split at hc <;> cases hc
    rename_i l' hl
    simp only [wRes, getK_iff] at h
    obtain ⟨xs, vs, h1, h2, h3⟩ := res_rel st hF rs l' hl h
    refine ⟨_ :: xs, _ :: vs, ?_, by simp only [RelL]; exact ⟨_, _, rfl, hF t, h2⟩, h3⟩
    rw [List.mapM_cons]
    simp only [Sem.run_bind, Sem.run_pure, Result.andThen_ok, h1]
  | .cell ad t :: rs, l, K, hc, h => by
    simp only [cRes] at hc
    split at hc
    · rename_i i u l' hi hu hl
      have main : ∀ {n : Nat} {ag : Bool}, ag = isAggD u → (ag = true → n = i.size) → (ag = false → n = 1) → wRes F S K (.cell ad n ag :: l') → ∃ (xs : List AVal) (vs : List Value), ((ResultVar.cell ad t :: rs).mapM fun r => (match r with | .tmp t => pure (tmps.getD t undef) | .cell a t => do loadVar t (← asAddr (tmps.getD a undef)) : Sem Value)).run P w = .ok vs w ∧ RelL E fz w xs vs ∧ K xs := fun {n ag} hag hn hn1 hw => by
        simp only [wRes, getK_iff] at hw
        obtain ⟨b, off, e, ys, us, g1, g2, g3, g4, g5, hk⟩ := wLoad_rel (P := P) st hw (hF ad)
        have fin : ∀ {x : AVal} {v : Value}, (loadVar t ⟨b, off, none⟩).run P w = .ok v w → Rel E fz w x v → wRes F S (fun xs => K (x :: xs)) l' → ∃ (xs : List AVal) (vs : List Value), ((ResultVar.cell ad t :: rs).mapM fun r => (match r with | .tmp t => pure (tmps.getD t undef) | .cell a t => do loadVar t (← asAddr (tmps.getD a undef)) : Sem Value)).run P w = .ok vs w ∧ RelL E fz w xs vs ∧ K xs := fun {x v} hr hrel hw' => by
          obtain ⟨xs, vs, h1, h2, h3⟩ := res_rel st hF rs l' hl hw'
          refine ⟨x :: xs, v :: vs, ?_, by simp only [RelL]; exact ⟨_, _, rfl, hrel, h2⟩, h3⟩
          rw [List.mapM_cons]
          have ea : (asAddr (tmps.getD ad undef)).run P w = .ok ⟨b, off, none⟩ w := by rw [e]; rfl
          simp only [Sem.run_bind, Sem.run_pure, Result.andThen_ok, ea, hr, h1]
        rcases mkVK_iff.1 hk with ⟨ha, hk2⟩ | ⟨ha, y, rfl, hk2⟩
        · have hn' := hn ha
          subst hn'
          refine fin (v := .agg us.toArray) ?_ ?_ hk2
          · simp [loadVar, run_isAgg hu, ← hag, ha, sizeOf, run_info hi, g4]
          · simp only [Rel]; exact ⟨us, rfl, g2, g3⟩
        · simp only [RelL] at g2
          obtain ⟨v, us', rfl, hv, rfl⟩ := g2
          have hc0 := g5 0 v rfl
          refine fin (v := v) ?_ hv hk2
          simp only [Nat.add_zero] at hc0
          simp [loadVar, run_isAgg hu, ← hag, ha, hc0]
      split at hc <;> cases hc
      · rename_i hag; exact main hag.symm (fun _ => rfl) (fun e => by cases e) h
      · rename_i hag; exact main (by cases hq : isAggD u <;> simp_all) (fun e => by cases e) (fun _ => rfl) h
    · cases hc

theorem fun_sound {f : FuncId} {fn : Func} {c : Code} {hint sc : SCode} {res : List RRes} {args : List AVal} {S : Store} {R : AVal → Store → Prop} (ha : callable P f = true) (hD : DrawSound P fn.ntmps) (hf : P.funcs[f]? = some fn) (hb : fn.body = some c) (hc : comp P fn.ntmps c hint = some sc) (hr : cRes P fn.results.toList = some res)
    (hlen : args.length ≤ fn.ntmps) (h : vcFun P sc res args S R) : ACalls P f args S R := by
  refine ⟨fun E fz w vals st hrel => ?_⟩
  refine .inl ⟨ha, calls_of_wp hf hb ?_⟩
  have hvl := hrel.length
  have hF : RelF E fz w (argF 0 args) (vals.toArray ++ Array.replicate (fn.ntmps - vals.toArray.size) undef) := by
    intro t
    rw [argF_get]
    rw [if_pos (Nat.zero_le _)]
    simp only [Nat.sub_zero]
    cases hx : args[t]? with
    | none => simp [Rel]
    | some x =>
      obtain ⟨v, hv, hr⟩ := hrel.get hx
      have hlt : t < vals.length := (List.getElem?_eq_some_iff.1 hv).1
      have : (vals.toArray ++ Array.replicate (fn.ntmps - vals.toArray.size) undef).getD t undef = v := by
        rw [Array.getD_eq_getD_getElem?, Array.getElem?_append_left (by simpa using hlt)]
        simp [hv]
      rw [this]
      exact hr
  refine wp_mono (code_sound hD c hint sc hc st hF (by simp; omega) h) ?_
  have fin : ∀ {a' : Act} {w' : World} {K : Frame → Store → Prop}, After fn.ntmps E fz S w { tmps := vals.toArray ++ Array.replicate (fn.ntmps - vals.toArray.size) undef, defers := [] } (writes sc) K a' w' → (∀ F' S', K F' S' → wRes F' S' (fun xs => retV xs fun r => R r S') res) →
      a'.defers = [] ∧ ∃ v, (results fn a'.tmps).run P w' = .ok v w' ∧ ∃ r S' v' E' fz', Ending.returned v = .returned v' ∧ Ext E fz S w E' fz' S' w' ∧ St E' fz' S' w' ∧ Rel E' fz' w' r v' ∧ R r S' := fun {a' w' K} hA hK => by
    obtain ⟨F', S', E', fz', q1, q2, q3, q4, q5, q6, q7⟩ := hA
    obtain ⟨xs, vs, g1, g2, g3⟩ := res_rel q3 q4 fn.results.toList res hr (hK _ _ q1)
    refine ⟨q6, ?_⟩
    have hrun : (fn.results.mapM fun r => (match r with | .tmp t => pure (a'.tmps.getD t undef) | .cell a t => do loadVar t (← asAddr (a'.tmps.getD a undef)) : Sem Value)).run P w' = .ok vs.toArray w' := by
      rw [Array.mapM_eq_mapM_toList, Sem.run_map, g1]; rfl
    have hres : (results fn a'.tmps).run P w' = .ok (if h : vs.toArray.size = 1 then vs.toArray[0] else .tuple vs.toArray) w' := by
      unfold results
      rw [Sem.run_bind]
      refine Eq.trans (congrArg (fun r => Result.andThen r _) hrun) ?_
      rfl
    have hl := g2.length
    match xs, vs, hl, g2, g3, hres with
    | [x], [v], _, g2, g3, hres =>
      simp only [RelL] at g2
      obtain ⟨v', us, e, hv, _⟩ := g2
      cases e
      exact ⟨v, hres, x, S', v, E', fz', rfl, q2, q3, hv, g3⟩
    | [], [], _, g2, g3, hres => exact ⟨_, hres, .tup [], S', _, E', fz', rfl, q2, q3, by simp only [Rel]; exact ⟨[], rfl, g2⟩, g3⟩
    | x :: y :: xs, v :: u :: vs, _, g2, g3, hres =>
      refine ⟨.tuple (v :: u :: vs).toArray, ?_, .tup (x :: y :: xs), S', _, E', fz', rfl, q2, q3, by simp only [Rel]; exact ⟨_, rfl, g2⟩, g3⟩
      rw [hres, dif_neg (by simp)]
    | [], _ :: _, hl, _, _, _ => simp at hl
    | _ :: _, [], hl, _, _, _ => simp at hl
    | [_], _ :: _ :: _, hl, _, _, _ => simp at hl
    | _ :: _ :: _, [_], hl, _, _, _ => simp at hl
  intro e a' w' hl
  cases e <;> simp only [Lift] at hl
  · exact fin hl fun _ _ q => q
  · obtain ⟨F', S', E', fz', q1, _⟩ := hl; exact q1.elim
  · exact fin hl fun _ _ q => q

/-! ### Contracts in use -/
theorem ACalls.mono {f : FuncId} {args : List AVal} {S : Store} {R R' : AVal → Store → Prop} (h : ACalls P f args S R) (hr : ∀ r S', R r S' → R' r S') : ACalls P f args S R' :=
  ⟨fun E fz w vals st hrel => (h.out E fz w vals st hrel).mono fun e w' ⟨r, S', v, E', fz', h1, h2, h3, h4, h5⟩ => ⟨r, S', v, E', fz', h1, h2, h3, h4, hr _ _ h5⟩⟩

end
end Go.Vc
