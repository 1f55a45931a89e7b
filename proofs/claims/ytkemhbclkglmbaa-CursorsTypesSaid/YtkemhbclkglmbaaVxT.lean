/-
  A law's statement from its contract: the arguments opened, the answer given, what was handed in left as it was.
-/
import Derived.Test.YtkemhbclkglmbaaVxS
import Derived.JoinedCond
set_option linter.unusedVariables false
set_option linter.unusedSimpArgs false
namespace Go.Vc
open Go.ChangeShapes Go.WideShapes Go.ChangeAt Go.RowKit

section
variable {H : Type} {enc : TypeId × Value → H} {P : Program} {w : World} {bulk : DataW H → Nat} {all : List (DataW H) → Nat}

theorem reads_arg (hb : Bulk bulk all) {n : Nat} {t : TypeId} {u : Ty} {v : Value} {d : DataW H} {ps : List MemPlace} {spare : Nat → Bool} {held : Bool} (hu : tyOf P n t = some u) (hv : Value.okWide P w .any 0 t v)
    (hR : ∀ x ∈ d.weights P t, x ≤ reachBytes) (h : DataW.Trod enc P w 0 spare held t v d ps) : ∃ x : T u, Rel E0 (fz0 w) w (encA u x) v ∧ okT u x ∧ wtT u x ≤ bulk d := by
  obtain ⟨fuel, hf⟩ := h
  obtain ⟨x, h1, h2, h3, h4⟩ := reads_cells hb fuel n t u _ d ps hu hR hf
  refine ⟨x, ?_, h2, h3⟩
  have one : (∀ cs, v ≠ .agg cs) → v.cells.toList = [v] := fun hn => by
    cases v <;> first | rfl | exact absurd rfl (hn _)
  cases n with
  | zero => simp [tyOf] at hu
  | succ n =>
    unfold tyOf at hu
    split at hu
    · rename_i k hk
      cases hu
      obtain ⟨m, rfl⟩ := okWide_int hk hv
      simpa [encT, encA, RelL, Value.cells] using h1
    · rename_i hk
      cases hu
      have hn : ∀ cs, v ≠ .agg cs := fun cs hc => by subst hc; simp [Value.okWide, hk, Cell.okWide, Cell.ok] at hv
      rw [one hn] at h1
      simpa [encT, encA, RelL] using h1
    · rename_i hk
      cases hu
      have hn : ∀ cs, v ≠ .agg cs := fun cs hc => by subst hc; simp [Value.okWide, hk, Cell.okWide, Cell.ok] at hv
      rw [one hn] at h1
      simpa [encT, encA, RelL] using h1
    · rename_i e hk
      have hn : ∀ cs, v ≠ .agg cs := fun cs hc => by subst hc; simp [Value.okWide, hk, Cell.okWide, Cell.ok] at hv
      rw [one hn] at h1
      split at hu
      · split at hu
        · cases hu
          simpa [encT, encA, RelL] using h1
        · cases hu
      · cases hu
    · rename_i fs hk
      obtain ⟨cs, rfl, _⟩ := okWide_struct hk hv
      split at hu
      · split at hu
        · cases hu
          simp only [encA, Rel]
          exact ⟨cs.toList, by simp, by simpa [encT, Value.cells] using h1, by simpa [Value.cells] using h4⟩
        · cases hu
      · cases hu
    · cases hu

theorem reads_args (hb : Bulk bulk all) {n : Nat} {spare : Nat → Bool} {held : Bool} : ∀ (ts : List TypeId) (us : Tys) (vs : List Value) (ds : List (DataW H)) (ps : List MemPlace), tysOf P n ts = some us →
    (∀ (j : Nat) t v, ts[j]? = some t → vs[j]? = some v → Value.okWide P w .any 0 t v) → DataW.TrodAll enc P w 0 spare held ts vs ds ps → (∀ x ∈ DataW.weightsEach P ts ds, x ≤ reachBytes) →
    ds.length = ts.length ∧ ∃ x : Ts us, RelL E0 (fz0 w) w (encAs us x) vs ∧ okTs us x ∧ wtTs us x ≤ all ds
  | [], us, vs, ds, ps, hu, hv, h, hR => by
    obtain ⟨rfl, rfl, rfl⟩ := trodAll_nil h
    simp only [tysOf, Option.some.injEq] at hu
    subst hu
    exact ⟨rfl, (), by simp [encAs, RelL], trivial, by simp [wtTs]⟩
  | t :: ts, us, vs, ds, ps, hu, hv, h, hR => by
    obtain ⟨v, vs', d, ds', p, q, rfl, rfl, rfl, h1, h2⟩ := trodAll_cons h
    simp only [DataW.weightsEach, List.mem_append] at hR
    unfold tysOf at hu
    split at hu
    · rename_i u us' e1 e2
      cases hu
      obtain ⟨x, r1, r2, r3⟩ := reads_arg hb e1 (hv 0 t v rfl rfl) (fun x hx => hR x (.inl hx)) h1
      obtain ⟨hl, y, q1, q2, q3⟩ := reads_args hb ts us' vs' ds' q e2 (fun j t' v' a b => hv (j + 1) t' v' (by simpa using a) (by simpa using b)) h2 (fun x hx => hR x (.inr hx))
      refine ⟨by simp [hl], ?_⟩
      rw [hb.cons]
      cases us' with
      | nil =>
        simp only [encAs, RelL] at q1
        subst q1
        exact ⟨x, by simp only [encAs, RelL]; exact ⟨v, [], rfl, r1, rfl⟩, r2, by simp only [wtTs]; omega⟩
      | cons u2 us2 =>
        refine ⟨(x, y), ?_, ⟨r2, q2⟩, Nat.add_le_add r3 q3⟩
        simp only [encAs, RelL]
        exact ⟨v, vs', rfl, r1, q1⟩
    · cases hu

theorem trodAll_stays (hl : laidOutB P = true) {W' : World} {sp : Nat → Bool} : ∀ (ts : List TypeId) (vs : List Value) (ds : List (DataW H)) (ps : List MemPlace), (∀ t ∈ ts, P.readableRec t = true ∧ t < P.types.size) →
    DataW.TrodAll enc P w 0 (fun _ => true) true ts vs ds ps → (∀ p ∈ ps, w.sameAt W' p) → (∀ p ∈ ps, sp p.block = true) → DataW.TrodAll enc P W' 0 sp true ts vs ds ps
  | [], vs, ds, ps, _, h, _, _ => by
    obtain ⟨rfl, rfl, rfl⟩ := trodAll_nil h
    exact trodAll_mk0
  | t :: ts, vs, ds, ps, ht, h, hs, hp => by
    obtain ⟨v, vs', d, ds', p, q, rfl, rfl, rfl, h1, h2⟩ := trodAll_cons h
    exact ⟨p, q, WideElems.Trod_stays hl (ht t (by simp)).1 (ht t (by simp)).2 h1 (fun x hx => hs x (by simp [hx])) (fun x hx => hp x (by simp [hx])),
      trodAll_stays hl ts vs' ds' q (fun t' h' => ht t' (by simp [h'])) h2 (fun x hx => hs x (by simp [hx])) (fun x hx => hp x (by simp [hx])), rfl⟩

/-- 'post_of_same' where the frame is that nothing below the heap's old size has turned. -/
theorem post_of_below {f : Func} {s : ChangeSpec} {apart fresh handsOn again : Bool} {W W' : World} {args : Array Value} {ds : List (DataW H)} {before : List MemPlace} (hl : laidOutB P = true)
    (hpar : ∀ t ∈ f.params.toList, P.readableRec t = true ∧ t < P.types.size) (hsv : s.vars = [])
    (hW : DataW.Whole enc P f.params.toList s.vars apart W args.toList ds [] before) (hsp : s.fn H ds = { results := [.lit (.bool true)], args := ds }) {tb : TypeId} (hrt : f.resultTypes = #[tb]) (htb : P.underlying tb = some .bool)
    (hb : Below W.heap.size W W') : s.post enc P f apart fresh handsOn again W args (.bool true) W' := by
  have hlt := hW.lt
  obtain ⟨p, q, hA, hV, rfl, hfz, hnd⟩ := hW
  have hV0 := hV
  rw [hsv] at hV
  obtain ⟨_, rfl⟩ := trodVars_none hV
  have same : ∀ x ∈ p, W.sameAt W' x := fun x hx => hb.same (hlt x (by simp [hx]))
  have hargs : ∀ sp : Nat → Bool, (∀ x ∈ p, sp x.block = true) → DataW.TrodAll enc P W' 0 sp true f.params.toList args.toList ds p := fun sp hs => trodAll_stays hl _ _ _ _ hpar hA same hs
  have hres : ∀ (b : Nat) (sp : Nat → Bool) (hd : Bool), DataW.TrodAll enc P W' b sp hd f.resultTypes.toList ((Value.bool true).resultList f.resultTypes.size) [DataW.lit (.bool true)] [] := fun b sp hd => by
    rw [hrt]
    exact trodAll_mk1 (shut_bool htb _)
  refine ⟨ds, [], p ++ [], [], p, [], ⟨p, [], hA, hV0, rfl, hfz, hnd⟩, ?_, ?_, ?_, ?_, fun _ => ?_⟩
  · rw [List.append_nil, hsp]; exact hres _ _ _
  · rw [List.append_nil, hsp]; exact hargs _ fun x hx => by simpa using hlt x (by simp [hx])
  · rw [List.append_nil, hsp, hsv]; exact rfl
  · exact World.keptBut_mono (fun x hx => by simpa using hx) (hb.frame (· ∈ p ++ []))
  · refine ⟨?_, [.lit (.bool true)] ++ ds, [], p ++ [], ⟨p, [], ?_, ?_, rfl, ?_, ?_⟩, fun x hx _ => hx⟩
    · exact ok_one hrt rfl (okWide_bool_mk htb _)
    · have := trodAll_append (hargs (fun _ => true) fun _ _ => rfl) (hres 0 (fun _ => true) true)
      simpa using this
    · rw [hsv]; exact rfl
    · intro b off hp
      have := hb.frozen (p := ⟨b, off, none⟩) (hlt _ hp)
      rw [this]
      exact hfz b off hp
    · exact hnd

theorem law_contract {fn : Func} {f : FuncId} {s : ChangeSpec} {tb : TypeId} {us : Tys} {n : Nat} {par : Array TypeId} (hps : fn.params = par) (hb : Bulk bulk all) (hl : laidOutB P = true) (hpar : ∀ t ∈ par.toList, P.readableRec t = true ∧ t < P.types.size) (hsv : s.vars = [])
    (hsp : ∀ ds : List (DataW H), ds.length = par.toList.length → s.fn H ds = { results := [.lit (.bool true)], args := ds }) (hrt : fn.resultTypes = #[tb]) (htb : P.underlying tb = some .bool) (hu : tysOf P n par.toList = some us)
    {args : Array Value} {ds gs : List (DataW H)} {before : List MemPlace} {W : World} {apart fresh handsOn again : Bool}
    (law : ∀ x : Ts us, okTs us x → wtTs us x ≤ all (ds ++ gs) → callable P f = true ∧ ACalls P f (encAs us x) [] (fun r _ => r = .bool true))
    (hval : ∀ (j : Nat) t v, fn.params[j]? = some t → args[j]? = some v → Value.okWide P W .any 0 t v)
    (hW : DataW.Whole enc P fn.params.toList s.vars apart W args.toList ds gs before) (hz : (DataW.weightsEach P (fn.params.toList ++ s.plain.varTypes P) (ds ++ gs)).all (· ≤ reachBytes) = true) :
    Calls P f args W fun e W' => ∃ v, e = .returned v ∧ s.post enc P fn apart fresh handsOn again W args v W' := by
  subst hps
  have hW0 := hW
  obtain ⟨p, q, hA, hV, _, _, _⟩ := hW
  rw [hsv] at hV
  obtain ⟨rfl, _⟩ := trodVars_none hV
  have hR : ∀ x ∈ DataW.weightsEach P fn.params.toList ds, x ≤ reachBytes := by
    have mono : ∀ (ts us : List TypeId) (ds es : List (DataW H)), ∀ x ∈ DataW.weightsEach P ts ds, ts.length = ds.length → x ∈ DataW.weightsEach P (ts ++ us) (ds ++ es) := by
      intro ts
      induction ts with
      | nil => intro us ds es x hx _; cases ds <;> simp [DataW.weightsEach] at hx
      | cons t ts ih =>
        intro us ds es x hx hl
        cases ds with
        | nil => simp [DataW.weightsEach] at hx
        | cons d ds =>
          simp only [DataW.weightsEach, List.mem_append, List.cons_append] at hx ⊢
          rcases hx with hx | hx
          · exact .inl hx
          · exact .inr (ih us ds es x hx (by simpa using hl))
    have hl : fn.params.toList.length = ds.length := by
      have : ∀ (ts : List TypeId) (vs : List Value) (ds : List (DataW H)) (ps : List MemPlace), DataW.TrodAll enc P W 0 (fun _ => true) true ts vs ds ps → ts.length = ds.length := by
        intro ts
        induction ts with
        | nil => intro vs ds ps h; obtain ⟨_, rfl, _⟩ := trodAll_nil h; rfl
        | cons t ts ih =>
          intro vs ds ps h
          obtain ⟨v, vs', d, ds', p, q, _, rfl, _, _, h2⟩ := trodAll_cons h
          simp [ih _ _ _ h2]
      exact this _ _ _ _ hA
    intro x hx
    have := List.all_eq_true.1 hz x (mono _ _ _ _ x hx hl)
    simpa using this
  obtain ⟨hlen, x, h1, h2, h3⟩ := reads_args hb _ us _ ds p hu (fun j t v a b => hval j t v (by simpa using a) (by simpa using b)) hA hR
  have st0 : St E0 (fz0 W) [] W := ⟨fun l o h => by simp at h, fun l l' b ⟨o, h, _⟩ => by simp at h, fun b h => h, 0, fun _ _ => rfl⟩
  have c0 := law x h2 (by rw [List.append_nil]; exact h3)
  have c := (c0.2.out E0 (fz0 W) W args.toList st0 h1).calls c0.1
  rw [show args.toList.toArray = args by simp] at c
  refine c.mono fun e W' ⟨r, S', v, E', fz', e1, e2, e3, e4, e5⟩ => ?_
  subst e5
  simp only [Rel] at e4
  subst e4
  refine ⟨_, e1, post_of_below hl hpar hsv hW0 (hsp ds (by simpa using hlen)) hrt htb ⟨e2.os, e2.tape.1, e2.output, e2.size, fun k hk => e2.keep k hk fun ⟨l, o, h, _⟩ => by simp at h⟩⟩

end
end Go.Vc
