/-
  Every operation that 'cop' takes: its condition is enough.
-/
import Derived.Test.YtkemhbclkglmbaaVxV
set_option linter.unusedVariables false
set_option linter.unusedSimpArgs false
namespace Go.Vc
section
variable {P : Program} {E : Env} {fz : Nat → Prop} {S : Store} {w : World} {F : Frame} {a : Act} {K : AVal → Store → Prop} {ro : Bool}

theorem cop_sound (st : St E fz S w) (hF : RelF E fz w F a.tmps) {o : Oper} {so : SOp} (hc : cop P ro o.type o.op = some so) (h : vcOp P F S K so) :
    RunsTo P ((execOp a.eval o).run P w) (Post K E fz S w) := by
  cases ho : o.op <;> rw [ho] at hc <;> simp only [cop] at hc
  case move x =>
    split at hc <;> cases hc
    rename_i r hx
    exact mov_sound st hF (.inl ho) hx h
  case assign x =>
    unfold cNil at hc
    split at hc
    · split at hc <;> cases hc
      · simp only [vcOp, wPush_iff] at h
        obtain ⟨ver, E', p1, p2, p3⟩ := new_nil st (elemK P o.type)
        exact runs_of st (v := .slice none 0 0) (by simp [execOp, ho, Act.eval]) ⟨_, _, E', fz, h ver, p3, p2, by simp only [Rel]; exact .inl ⟨trivial, none, rfl⟩⟩
      · exact mov_sound st hF (.inr ho) (by simp [cRand, absV, absS]) h
    · split at hc <;> cases hc
      rename_i r hx
      exact mov_sound st hF (.inr ho) hx h
  case pick c x y =>
    split at hc <;> cases hc
    rename_i h1 h2 h3
    exact pick_sound st hF ho h1 h2 h3 h
  case alloc t =>
    split at hc <;> cases hc
    rename_i z hz
    exact alloc_sound st ho hz h
  case box t x =>
    split at hc <;> cases hc
    rename_i r hx
    exact box_sound st hF ho hx h
  case build t parts =>
    split at hc
    · rename_i z fs hz ht
      split at hc
      · rename_i hall
        split at hc <;> cases hc
        rename_i ps hps
        refine build_struct_sound st hF ho ht hz (fun f hf => ?_) hps h
        have := List.all_eq_true.1 hall f hf
        exact Option.isSome_iff_exists.1 this
      · cases hc
    · rename_i z len e hz ht
      split at hc
      · rename_i n hn
        split at hc <;> cases hc
        rename_i ps hps
        exact build_array_sound st hF ho ht hz hn hps h
      · cases hc
    · cases hc
  case buildSlice t len parts =>
    split at hc
    · rename_i e ht
      split at hc
      · rename_i n z hn hz
        split at hc
        · rename_i hcond
          split at hc <;> cases hc
          rename_i ps hps
          exact bslice_sound st hF ho ht hn hz hcond.1 hcond.2.1 hcond.2.2 hps h
        · cases hc
      · cases hc
    · cases hc
  case load t x =>
    split at hc
    · rename_i i u r hi hu hx
      refine load_sound st hF ho hi hu hx ?_
      split at hc <;> cases hc
      · rename_i hag; rw [if_pos hag]; exact h
      · rename_i hag; rw [if_neg hag]; exact h
    · cases hc
  case store t x v =>
    split at hc
    · rename_i n rx rv hn hx hv
      split at hc <;> cases hc
      rename_i h0
      exact store_sound st hF ho hn h0 hx hv h
    · cases hc
  case nilCheck x =>
    split at hc <;> cases hc
    rename_i r hx
    exact nilchk_sound st hF ho hx h
  case binOp op t x y u =>
    split at hc
    · rename_i so' hs
      cases hc
      unfold cIsnil at hs
      split at hs
      · rename_i e rx ht hx
        split at hs <;> cases hs
        · exact isnil_sound st hF ho ht hx (.inl ⟨rfl, rfl⟩) h
        · exact isnil_sound st hF ho ht hx (.inr ⟨rfl, rfl⟩) h
      · cases hs
    · split at hc <;> cases hc
      rename_i q rx ry hq hx hy
      exact bin_sound st hF ho hq hx hy h
  case unOp op t x =>
    cases op <;> simp only at hc <;> first | (cases hc; done) | skip
    all_goals
      split at hc <;> cases hc
      rename_i r hx
    · exact un_sound st hF hx (.inr ⟨ho, h⟩)
    · exact un_sound st hF hx (.inl ⟨ho, h⟩)
  case convert s d x =>
    split at hc
    · rename_i u k r hs hd hx; cases hc; exact conv_sound st hF ho hs hd hx h
    · rename_i r hs hd hx; cases hc; exact strid_sound st hF ho hs hd hx h
    · rename_i e r hs hd hx; split at hc <;> cases hc; rename_i he; exact s2b_sound st hF ho hs hd he hx h
    · rename_i e e' r hs hd hx; split at hc
      · rename_i hsd; subst hsd; split at hc <;> cases hc; rename_i he; exact mark_sound st hF ho hs he hx h
      · cases hc
    · rename_i e r hs hd hx; split at hc <;> cases hc; rename_i he; exact b2s_sound st hF ho hs hd he hx h
    · cases hc
  case makeSlice t l c =>
    split at hc
    · rename_i e ht
      split at hc
      · rename_i n b z rl rc hn hb hz hl hcc
        split at hc <;> cases hc
        rename_i hcond
        exact mkslice_sound st hF ho ht hn hb hz hcond.1 hcond.2.1 hcond.2.2 hl hcc h
      · cases hc
    · cases hc
  case slice t x lo hi mx =>
    cases mx with
    | none =>
      have hc : cop P ro o.type (.slice t x lo hi none) = some so := hc
      unfold cop at hc
      simp only at hc
      split at hc
      · rename_i rx rlo rhi ht hx hlo hhi; cases hc; exact slice_str_sound st hF ho ht hx hlo hhi h
      · rename_i e rx rlo rhi ht hx hlo hhi
        split at hc <;> cases hc
        rename_i n hn
        exact slice_slice_sound st hF ho ht hn hx hlo hhi h
      · cases hc
    | some mx =>
      cases lo with
      | some lo => cases hi <;> cases hc
      | none =>
        cases hi with
        | none => cases hc
        | some hi =>
          have hc : cop P ro o.type (.slice t x none (some hi) (some mx)) = some so := hc
          unfold cop at hc
          simp only at hc
          split at hc
          · rename_i e rx rh rm ht hx hh hm
            split at hc <;> cases hc
            rename_i n hn
            exact slice3_sound st hF ho ht hn hx hh hm h
          · cases hc
  case fieldAddr s x f =>
    split at hc
    · rename_i fs r hs hx
      split at hc
      · rename_i fd hf
        split at hc <;> cases hc
        rename_i n hn
        exact faddr_sound st hF ho hs hf hn hx h
      · cases hc
    · cases hc
  case field t x f =>
    split at hc
    · rename_i fs r hs hx
      split at hc
      · rename_i fd hf
        split at hc
        · rename_i u n hu hn
          refine field_sound st hF ho hs hf hu hn hx ?_
          split at hc <;> cases hc
          · rename_i hag; rw [if_pos hag]; exact h
          · rename_i hag; rw [if_neg hag]; exact h
        · cases hc
      · cases hc
    · cases hc
  case indexAddr t x i =>
    split at hc
    · rename_i e rx ri ht hx hi
      split at hc <;> cases hc
      rename_i n hn
      exact iaddr_slice_sound st hF ho ht hn hx hi h
    · rename_i len e rx ri ht hx hi
      split at hc <;> cases hc
      rename_i n hn
      exact iaddr_array_sound st hF ho ht hn hx hi h
    · cases hc
  case index t x i =>
    split at hc
    · rename_i rx ri ht hx hi; cases hc; exact index_str_sound st hF ho ht hx hi h
    · rename_i len e rx ri ht hx hi
      split at hc
      · rename_i u n hu hn
        split at hc
        · rename_i hag
          cases hc
          refine index_array_sound st hF ho ht hu hn (fun e => by rw [hag] at e; cases e) hx hi ?_
          rw [hag]; exact h
        · rename_i hag
          split at hc <;> cases hc
          rename_i h1
          subst h1
          have hag' : isAggD u = false := by simpa using hag
          refine index_array_sound st hF ho ht hu hn (fun _ => rfl) hx hi ?_
          rw [hag']; exact h
      · cases hc
    · cases hc
  case makeInterface t x =>
    split at hc
    · cases hc
    · rename_i d r hd h1 h2
      cases hc
      exact mkif_sound st hF ho h1 (fun m e => hd m (e)) h2 h
    · cases hc
  case makeFunc f x y =>
    split at hc <;> cases hc
    rename_i h1 h2
    exact mkfunc_sound st hF ho h1 h2 h
  case extract x i =>
    split at hc <;> cases hc
    rename_i r hx
    exact extract_sound st hF ho hx h
  case call c =>
    split at hc
    · rename_i x hcal hargs
      split at hc
      · rename_i ht
        cases hc
        obtain ⟨t, ht0, ht⟩ := Option.bind_eq_some_iff.1 ht
        exact len_sound st hF ho hcal hargs ht0 (.inl ⟨rfl, ht⟩) h
      · rename_i e ht
        cases hc
        obtain ⟨t, ht0, ht⟩ := Option.bind_eq_some_iff.1 ht
        exact len_sound st hF ho hcal hargs ht0 (.inr ⟨rfl, e, ht⟩) h
      · cases hc
    · rename_i rs rx hcal hargs
      split at hc
      · rename_i e u ht hu
        obtain ⟨t, ht0, ht⟩ := Option.bind_eq_some_iff.1 ht
        obtain ⟨tu, ht1, hu⟩ := Option.bind_eq_some_iff.1 hu
        split at hc
        · rename_i i hi
          split at hc
          · rename_i z e' hz _
            split at hc <;> cases hc
            rename_i hcond
            exact append_sound st hF ho hcal hargs ht0 ht1 ht hu (.inl ⟨_, rfl⟩) hi hz hcond.1 hcond.2.1 hcond.2.2 h
          · rename_i z hz _
            split at hc <;> cases hc
            rename_i hcond
            exact append_sound st hF ho hcal hargs ht0 ht1 ht hu (.inr rfl) hi hz hcond.1 hcond.2.1 hcond.2.2 h
          · cases hc
        · cases hc
      · cases hc
    · rename_i x hcal hargs
      split at hc
      · rename_i e ht
        obtain ⟨t, ht0, ht⟩ := Option.bind_eq_some_iff.1 ht
        split at hc
        · rename_i n z hn hz
          split at hc <;> cases hc
          rename_i hcond
          exact clear_sound st hF ho hcal hargs ht0 ht hn hz hcond.1 hcond.2 h
        · cases hc
      · cases hc
    · rename_i xs hcal hargs; cases hc; exact minmax_sound st hF ho hargs (.inl ⟨hcal, h⟩)
    · rename_i xs hcal hargs; cases hc; exact minmax_sound st hF ho hargs (.inr ⟨hcal, h⟩)
    · rename_i f xs hcal hargs
      split at hc
      · cases hc
        rename_i hf
        exact call_sound st hF ho hcal hargs hf h
      · split at hc <;> cases hc
        rename_i hk
        exact ext_sound st hF ho hcal hargs hk h
    · rename_i x xs _ hcal hargs
      split at hc <;> cases hc
      rename_i r hx
      exact callv_sound st hF ho hcal hargs hx h
    · cases hc
  all_goals cases hc

/-- What an operation becomes: what is not known is 'bad'; a slice may be made at a place that was kept for it. -/
def copR (P : Program) (ro : Bool) (hint : SOp) (ty : TypeId) (op : Op) : SOp :=
  match hint, op with
  | .mkres d _ _ _ _ _, .makeSlice t l c => (match P.underlying t with
    | some (.slice e) => (match tSize P e, tBytes P e, tZero P e, cRand l, cRand c with
      | some n, some b, some z, some l, some c => if 0 < n ∧ 0 < b ∧ z.length = n then .mkres d n b z l c else .bad
      | _, _, _, _, _ => .bad)
    | _ => .bad)
  | .alres d _ _, .alloc t => (match tZero P t with | some z => .alres d (kOf P t) z | none => .bad)
  | _, op => (match cop P ro ty op with | some so => so | none => .bad)
theorem copR_sound (st : St E fz S w) (hF : RelF E fz w F a.tmps) {o : Oper} {hint so : SOp} (hc : copR P ro hint o.type o.op = so) (h : vcOp P F S K so) :
    RunsTo P ((execOp a.eval o).run P w) (Post K E fz S w) := by
  unfold copR at hc
  split at hc
  · rename_i d _ _ _ _ _ t l c ho
    split at hc
    · rename_i e ht
      split at hc
      · rename_i n b z rl rc hn hb hz hl hcc
        split at hc
        · rename_i hcond
          subst hc
          exact mkres_sound st hF ho ht hn hb hz hcond.1 hcond.2.1 hcond.2.2 hl hcc h
        · subst hc; exact h.elim
      · subst hc; exact h.elim
    · subst hc; exact h.elim
  · rename_i d _ _ t ho
    split at hc
    · rename_i z hz
      subst hc
      exact alres_sound st ho hz h
    · subst hc; exact h.elim
  · split at hc
    · rename_i so' hs
      subst hc
      exact cop_sound st hF hs h
    · subst hc; exact h.elim
end
end Go.Vc
