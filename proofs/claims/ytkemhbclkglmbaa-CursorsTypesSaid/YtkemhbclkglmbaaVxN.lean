/-
  Control: sequences, branches, blocks, loops; a whole function.
-/
import Derived.Test.YtkemhbclkglmbaaVxQ
import Derived.Deep.LoopGhost
set_option linter.unusedVariables false
set_option linter.unusedSimpArgs false
namespace Go.Vc

def writes : SCode → List Nat
  | .skip => []
  | .ops l _ _ => gWrites l
  | .seq a b => writes a ++ writes b
  | .join _ _ _ a b => writes a ++ writes b
  | .cond _ a b => writes a ++ writes b
  | .block _ a => writes a
  | .loop _ _ _ a => writes a
  | .exit _ => []
  | .ret => []

def apart (keep W : List Nat) : Bool := keep.all fun t => !W.contains t

/-- Where the code does not come. -/
def badC : SCode := .ops [⟨none, .bad, none, false, []⟩] none []

def comp (P : Program) (N : Nat) : Code → SCode → Option SCode
  | .skip, _ => some .skip
  | .region _ ops false, .ops l none keep => (match cOps P N ops ops.toList l with | some gl => some (.ops gl none keep) | none => none)
  | .region _ ops true, .ops l (some d) keep => (match cOps P N ops ops.toList (unperm d.2.2 (realG l)) with | some gl => if drawOk ops d.1 d.2.2 gl && P.follows .mixedOrders then some (.ops (expandG (permG d.2.2 gl)) (some d) keep) else none | none => none)
  | .seq a b, .seq x y => (match comp P N a x, comp P N b y with | some x, some y => some (.seq x y) | _, _ => none)
  | .seq a b, .join keep W n x y => (match comp P N a x, comp P N b y with | some x, some y => if apart keep (writes x) then some (.join keep W n x y) else none | _, _ => none)
  | .cond c a b, .cond _ x y => (match cRand c, comp P N a x, comp P N b y with | some c, some x, some y => some (.cond c x y) | _, _, _ => none)
  | .block id a, .block _ x => (match comp P N a x with | some x => some (.block id x) | none => none)
  | .loop a, .loop keep W n x => (match comp P N a x with | some x => if apart keep (writes x) then some (.loop keep W n x) else none | none => none)
  | .exit id, _ => some (.exit id)
  | .ret, _ => some .ret
  | .rangeFunc .., _ => some badC
  | .scope _, _ => some badC
  | .label _, _ => some badC
  | .goto _, _ => some badC
  | .refuse _, _ => some badC
  | _, _ => none

def toExit : SExit → Exit
  | .normal => .normal
  | .exit id => .exit id
  | .ret => .ret

/-- The post of a piece of code: each way out, with what it leaves. -/
def Lift (N : Nat) (E : Env) (fz : Nat → Prop) (S : Store) (w : World) (a : Act) (W : List Nat) (Q : SExit → Frame → Store → Prop) : Exit → Act → World → Prop
  | .normal, a', w' => After N E fz S w a W (Q .normal) a' w'
  | .exit id, a', w' => After N E fz S w a W (Q (.exit id)) a' w'
  | .ret, a', w' => After N E fz S w a W (Q .ret) a' w'
  | _, _, _ => False

section
variable {P : Program} {N : Nat}

theorem After.mono {E : Env} {fz : Nat → Prop} {S : Store} {w : World} {a : Act} {W W' : List Nat} {K K' : Frame → Store → Prop} {a' : Act} {w' : World} (h : After N E fz S w a W K a' w') (hW : ∀ t, t ∈ W → t ∈ W') (hK : ∀ F S, K F S → K' F S) : After N E fz S w a W' K' a' w' := by
  obtain ⟨F', S', E', fz', q1, q2, q3, q4, q5, q6, q7⟩ := h
  exact ⟨F', S', E', fz', hK _ _ q1, q2, q3, q4, q5, q6, fun t ht => q7 t fun h => ht (hW t h)⟩

theorem After.trans {E E1 : Env} {fz fz1 : Nat → Prop} {S S1 : Store} {w w1 : World} {a a1 : Act} {W W1 W2 : List Nat} {K : Frame → Store → Prop} {a' : Act} {w' : World} (hx : Ext E fz S w E1 fz1 S1 w1) (hd : a1.defers = a.defers) (ht : ∀ t, t ∉ W1 → a1.tmps[t]? = a.tmps[t]?)
    (h : After N E1 fz1 S1 w1 a1 W2 K a' w') (h1 : ∀ t, t ∈ W1 → t ∈ W) (h2 : ∀ t, t ∈ W2 → t ∈ W) : After N E fz S w a W K a' w' := by
  obtain ⟨F', S', E', fz', q1, q2, q3, q4, q5, q6, q7⟩ := h
  refine ⟨F', S', E', fz', q1, hx.trans q2, q3, q4, q5, by rw [q6, hd], fun t hn => ?_⟩
  rw [q7 t (fun h => hn (h2 t h)), ht t (fun h => hn (h1 t h))]

theorem onlyK_iff {keep : List Nat} {F : Frame} {K : Frame → Prop} : onlyK keep F K ↔ K (keep.map fun t => (t, F.get t)) := by
  induction keep generalizing K with
  | nil => exact Iff.rfl
  | cons t keep ih => simp only [onlyK, getK_iff, ih, List.map_cons]
theorem getsK_iff {W : List Nat} {F : Frame} {K : List AVal → Prop} : getsK W F K ↔ K (W.map F.get) := by
  induction W generalizing K with
  | nil => exact Iff.rfl
  | cons t W ih => simp only [getsK, getK_iff, ih, List.map_cons]

def fit : Nat → Store → Store
  | 0, _ => []
  | n + 1, [] => .dead :: fit n []
  | n + 1, o :: S => o :: fit n S
theorem fitK_iff {n : Nat} {S : Store} {K : Store → Prop} : fitK n S K ↔ K (fit n S) := by
  induction n generalizing S K with
  | zero => simp [fitK, fit]
  | succ n ih => cases S <;> simp [fitK, fit, ih]
theorem fit_length : ∀ (n : Nat) (S : Store), (fit n S).length = n
  | 0, _ => rfl
  | n + 1, [] => by simp [fit, fit_length n]
  | n + 1, o :: S => by simp [fit, fit_length n]
theorem fit_get : ∀ (n : Nat) (S : Store) (l : Nat) (o : Ob), (fit n S)[l]? = some o → o = .dead ∨ S[l]? = some o
  | 0, _, l, o, h => by simp [fit] at h
  | n + 1, [], l, o, h => by
    cases l with
    | zero => simp [fit] at h; exact .inl h.symm
    | succ l => simp [fit] at h; rcases fit_get n [] l o h with h | h <;> first | exact .inl h | simp at h
  | n + 1, x :: S, l, o, h => by
    cases l with
    | zero => simp [fit] at h; exact .inr (by simp [h])
    | succ l => simp [fit] at h; simpa using fit_get n S l o h

/-- Objects may be let go. -/
theorem St.sub {E : Env} {fz : Nat → Prop} {S S' : Store} {w : World} (st : St E fz S w) (h : ∀ (l : Nat) o, S'[l]? = some o → o = .dead ∨ S[l]? = some o) : St E fz S' w ∧ Ext E fz S w E fz S' w := by
  have own : ∀ {l b : Nat}, OwnAt E S' l b → OwnAt E S l b := fun {l b} ⟨o, h1, h2⟩ => by
    rcases h l o h1 with rfl | h3
    · simp [obBlock] at h2
    · exact ⟨o, h3, h2⟩
  refine ⟨⟨fun l o hl => ?_, fun l l' b h1 h2 => st.sep l l' b (own h1) (own h2), st.fzlt, st.fresh⟩, ⟨fun _ _ h => h, fun _ h => h, fun _ h => .inl h, fun _ _ _ => rfl, fun b ⟨l, h⟩ => .inl ⟨l, own h⟩, Nat.le_refl _, rfl, rfl, ⟨rfl, Nat.le_refl _⟩⟩⟩
  rcases h l o hl with rfl | h3
  · trivial
  · exact st.ok l o h3

theorem zipF_get : ∀ (W : List Nat) (xs : List AVal) (F : Frame) (t : Nat), (∃ i : Nat, W[i]? = some t ∧ xs[i]? = some ((zipF W xs F).get t)) ∨ (zipF W xs F).get t = F.get t
  | [], xs, F, t => by cases xs <;> simp [zipF]
  | u :: W, [], F, t => by simp [zipF]
  | u :: W, x :: xs, F, t => by
    simp only [zipF, Frame.get]
    cases h : Nat.beq u t with
    | true =>
      have e : u = t := Nat.eq_of_beq_eq_true h
      exact .inl ⟨0, by simp [e], by simp⟩
    | false =>
      rcases zipF_get W xs F t with ⟨i, h1, h2⟩ | h1
      · exact .inl ⟨i + 1, by simpa using h1, by simpa using h2⟩
      · exact .inr h1

theorem keepF_get (keep : List Nat) (F : Frame) (t : Nat) : Frame.get (keep.map fun t => (t, F.get t)) t = F.get t ∧ t ∈ keep ∨ Frame.get (keep.map fun t => (t, F.get t)) t = .junk := by
  induction keep with
  | nil => exact .inr rfl
  | cons u keep ih =>
    simp only [List.map_cons, Frame.get]
    cases h : Nat.beq u t with
    | true =>
      have e : u = t := Nat.eq_of_beq_eq_true h
      subst e
      exact .inl ⟨rfl, by simp⟩
    | false =>
      rcases ih with ⟨h1, h2⟩ | h1
      · exact .inl ⟨h1, by simp [h2]⟩
      · exact .inr h1

theorem allA_iff {n : Nat} {f : List AVal → Prop} : allA n f ↔ ∀ xs : List AVal, xs.length = n → f xs := by
  induction n generalizing f with
  | zero => simp [allA]
  | succ n ih =>
    simp only [allA, ih]
    constructor
    · intro h xs hx
      cases xs with
      | nil => simp at hx
      | cons x xs => exact h x xs (by simpa using hx)
    · intro h x xs hx
      exact h (x :: xs) (by simp [hx])
theorem allO_iff {n : Nat} {f : Store → Prop} : allO n f ↔ ∀ xs : Store, xs.length = n → f xs := by
  induction n generalizing f with
  | zero => simp [allO]
  | succ n ih =>
    simp only [allO, ih]
    constructor
    · intro h xs hx
      cases xs with
      | nil => simp at hx
      | cons x xs => exact h x xs (by simpa using hx)
    · intro h x xs hx
      exact h (x :: xs) (by simp [hx])

theorem apart_spec {keep W : List Nat} (h : apart keep W = true) {t : Nat} (ht : t ∈ keep) : t ∉ W := by
  have := List.all_eq_true.1 h t ht
  simpa using this

/-- The frame that is taken up again: what was kept, and the slots that were written. -/
theorem relF_zip {E E' : Env} {fz fz' : Nat → Prop} {S S' : Store} {w w' : World} {F F' : Frame} {a a' : Act} {keep W : List Nat} {Wr : List Nat} (st : St E fz S w) (hx : Ext E fz S w E' fz' S' w') (hF : RelF E fz w F a.tmps) (hF' : RelF E' fz' w' F' a'.tmps)
    (hu : ∀ t, t ∉ Wr → a'.tmps[t]? = a.tmps[t]?) (hk : apart keep Wr = true) : RelF E' fz' w' (zipF W (W.map F'.get) (keep.map fun t => (t, F.get t))) a'.tmps := by
  intro t
  rcases zipF_get W (W.map F'.get) (keep.map fun t => (t, F.get t)) t with ⟨i, h1, h2⟩ | h1
  · rw [List.getElem?_map, h1] at h2
    simp at h2
    rw [← h2]
    exact hF' t
  · rw [h1]
    rcases keepF_get keep F t with ⟨h2, h3⟩ | h2
    · rw [h2, getD_of (hu t (apart_spec hk h3))]
      exact st.rel hx (hF t)
    · rw [h2]; simp [Rel]

theorem lift_wp {E E1 : Env} {fz fz1 : Nat → Prop} {S S1 : Store} {w w1 : World} {a a1 : Act} {W W1 W2 : List Nat} {Q : SExit → Frame → Store → Prop} {e : Exit} {a' : Act} {w' : World} (hx : Ext E fz S w E1 fz1 S1 w1) (hd : a1.defers = a.defers) (ht : ∀ t, t ∉ W1 → a1.tmps[t]? = a.tmps[t]?) (h1 : ∀ t, t ∈ W1 → t ∈ W) (h2 : ∀ t, t ∈ W2 → t ∈ W)
    (h : Lift N E1 fz1 S1 w1 a1 W2 Q e a' w') : Lift N E fz S w a W Q e a' w' := by
  cases e <;> simp only [Lift] at h ⊢ <;> exact h.trans hx hd ht h1 h2


/-- A region whose order is open: what its conditions give (proved in the file that defines 'drawOk'). -/
def DrawSound (P : Program) (N : Nat) : Prop := ∀ (id : Nat) (ops : Array Oper) (hint gl : List GOp) (m : Nat) (π : List Nat), cOps P N ops ops.toList hint = some gl → drawOk ops m π gl = true → P.follows .mixedOrders = true →
  ∀ {K : Frame → Store → Prop} {E : Env} {fz : Nat → Prop} {S : Store} {w : World} {F : Frame} {a : Act}, St E fz S w → RelF E fz w F a.tmps → a.tmps.size = N → vcOpsD P K m (expandG (permG π gl)) F S →
    (Code.region id ops true).wp P (fun e a' w' => e = .normal ∧ After N E fz S w a (gWrites (expandG (permG π gl))) K a' w') a w

theorem own_deads {E : Env} {S : Store} {r b : Nat} : Own E (S ++ List.replicate r .dead) b ↔ Own E S b := by
  constructor
  · rintro ⟨l, o, h1, h2⟩
    rcases Nat.lt_or_ge l S.length with h | h
    · rw [List.getElem?_append_left h] at h1; exact ⟨l, o, h1, h2⟩
    · rw [List.getElem?_append_right h, List.getElem?_replicate] at h1
      split at h1
      · cases h1; simp [obBlock] at h2
      · cases h1
  · rintro ⟨l, o, h1, h2⟩
    exact ⟨l, o, by rw [List.getElem?_append_left (List.getElem?_eq_some_iff.1 h1).1]; exact h1, h2⟩
theorem St.deads {E : Env} {fz : Nat → Prop} {S : Store} {w : World} (st : St E fz S w) (r : Nat) : St E fz (S ++ List.replicate r .dead) w := by
  have back : ∀ {l : Nat} {o : Ob}, (S ++ List.replicate r Ob.dead)[l]? = some o → S[l]? = some o ∨ o = .dead := fun {l o} h1 => by
    rcases Nat.lt_or_ge l S.length with h | h
    · rw [List.getElem?_append_left h] at h1; exact .inl h1
    · rw [List.getElem?_append_right h, List.getElem?_replicate] at h1
      split at h1
      · cases h1; exact .inr rfl
      · cases h1
  refine ⟨fun l o h => ?_, fun l l' b ⟨o, h1, h2⟩ ⟨o', h1', h2'⟩ => ?_, st.fzlt, st.fresh⟩
  · rcases back h with h | rfl
    · exact st.ok l o h
    · trivial
  · rcases back h1 with h | rfl
    · rcases back h1' with h' | rfl
      · exact st.sep l l' b ⟨o, h, h2⟩ ⟨o', h', h2'⟩
      · simp [obBlock] at h2'
    · simp [obBlock] at h2
theorem Ext.deads {E E' : Env} {fz fz' : Nat → Prop} {S S' : Store} {w w' : World} {r : Nat} (h : Ext E fz (S ++ List.replicate r .dead) w E' fz' S' w') : Ext E fz S w E' fz' S' w' :=
  ⟨h.env, h.frz, fun b hb => (h.fznew b hb).imp id (Or.imp own_deads.1 id), fun b hb hn => h.keep b hb fun q => hn (own_deads.1 q), fun b hb => (h.own b hb).imp own_deads.1 id, h.size, h.os, h.output, h.tape⟩

theorem code_sound (hD : DrawSound P N) : ∀ (c : Code) (hint sc : SCode), comp P N c hint = some sc → ∀ {Q : SExit → Frame → Store → Prop} {E : Env} {fz : Nat → Prop} {S : Store} {w : World} {F : Frame} {a : Act},
    St E fz S w → RelF E fz w F a.tmps → a.tmps.size = N → vc P sc Q F S → c.wp P (Lift N E fz S w a (writes sc) Q) a w
  | .skip, hint, sc, hc, Q, E, fz, S, w, F, a, st, hF, hN, h => by
    simp only [comp] at hc
    cases hc
    exact wp_skip ⟨F, S, E, fz, h, .refl, st, hF, hN, rfl, fun _ _ => rfl⟩
  | .exit id, hint, sc, hc, Q, E, fz, S, w, F, a, st, hF, hN, h => by
    simp only [comp] at hc
    cases hc
    exact wp_exit ⟨F, S, E, fz, h, .refl, st, hF, hN, rfl, fun _ _ => rfl⟩
  | .ret, hint, sc, hc, Q, E, fz, S, w, F, a, st, hF, hN, h => by
    simp only [comp] at hc
    cases hc
    exact wp_ret ⟨F, S, E, fz, h, .refl, st, hF, hN, rfl, fun _ _ => rfl⟩
  | .region id ops draw, hint, sc, hc, Q, E, fz, S, w, F, a, st, hF, hN, h => by
    cases draw
    · cases hint <;> (try simp only [comp] at hc) <;> first | (cases hc; done) | skip
      rename_i l d keep
      cases d <;> (try simp only [comp] at hc) <;> first | (cases hc; done) | skip
      split at hc <;> cases hc
      rename_i gl hgl
      simp only [vc] at h
      refine wp_region ?_
      have := ops_sound (Q := Lift N E fz S w a (writes (.ops gl none keep)) Q) ops.toList l gl 0 (fun j => by simp) hgl st hF hN h (fun a' w' hA => ?_)
      · simpa [List.range_eq_range'] using this
      · obtain ⟨F', S', E', fz', q1, q2, q3, q4, q5, q6, q7⟩ := hA
        rw [onlyK_iff] at q1
        refine ⟨_, S', E', fz', q1, q2, q3, fun t => ?_, q5, q6, q7⟩
        rcases keepF_get keep F' t with ⟨h1, _⟩ | h1
        · rw [h1]; exact q4 t
        · rw [h1]; simp [Rel]
    · cases hint <;> (try simp only [comp] at hc) <;> first | (cases hc; done) | skip
      rename_i l d keep
      cases d <;> (try simp only [comp] at hc) <;> first | (cases hc; done) | skip
      split at hc
      · rename_i gl hgl
        split at hc
        · rename_i hok
          cases hc
          simp only [Bool.and_eq_true] at hok
          simp only [vc] at h
          refine wp_mono (hD id ops _ gl _ _ hgl hok.1 hok.2 (st.deads _) hF hN h) ?_
          rintro e a' w' ⟨rfl, hA⟩
          obtain ⟨F', S', E', fz', q1, q2, q3, q4, q5, q6, q7⟩ := hA
          rw [onlyK_iff] at q1
          refine ⟨_, S', E', fz', q1, q2.deads, q3, fun t => ?_, q5, q6, q7⟩
          rcases keepF_get keep F' t with ⟨h1, _⟩ | h1
          · rw [h1]; exact q4 t
          · rw [h1]; simp [Rel]
        · cases hc
      · cases hc
  | .cond c x y, hint, sc, hc, Q, E, fz, S, w, F, a, st, hF, hN, h => by
    cases hint <;> simp only [comp] at hc <;> first | (cases hc; done) | skip
    split at hc <;> cases hc
    rename_i r sx sy hr hx hy
    have hrel := eval_rel hF hr
    simp only [vc, rdK_iff] at h
    have tr : vc P sx Q F S → a.eval c = .bool true → (Code.cond c x y).wp P (Lift N E fz S w a (writes (.cond r sx sy)) Q) a w := fun hv he =>
      wp_cond_true he (wp_mono (code_sound hD x _ sx hx st hF hN hv) fun e a' w' hl => lift_wp .refl rfl (W1 := []) (fun _ _ => rfl) (by simp) (fun t ht => by simp [writes, ht]) hl)
    have fl : vc P sy Q F S → a.eval c = .bool false → (Code.cond c x y).wp P (Lift N E fz S w a (writes (.cond r sx sy)) Q) a w := fun hv he =>
      wp_cond_false he (wp_mono (code_sound hD y _ sy hy st hF hN hv) fun e a' w' hl => lift_wp .refl rfl (W1 := []) (fun _ _ => rfl) (by simp) (fun t ht => by simp [writes, ht]) hl)
    cases hC : rd F r <;> rw [hC] at h hrel <;> simp only [Rel] at h hrel
    · exact tr h hrel
    · exact fl h hrel
    · rename_i b
      cases b
      · exact fl (h.2 rfl) hrel
      · exact tr (h.1 rfl) hrel
  | .seq x y, hint, sc, hc, Q, E, fz, S, w, F, a, st, hF, hN, h => by
    cases hint <;> simp only [comp] at hc <;> first | (cases hc; done) | skip
    · split at hc <;> cases hc
      rename_i sx sy hx hy
      simp only [vc] at h
      refine wp_seq (wp_mono (code_sound hD x _ sx hx st hF hN h) fun e a1 w1 hl => ?_)
      cases e <;> simp only [Lift] at hl
      · obtain ⟨F1, S1, E1, fz1, q1, q2, q3, q4, q5, q6, q7⟩ := hl
        exact wp_mono (code_sound hD y _ sy hy q3 q4 q5 q1) fun e a' w' hl2 => lift_wp q2 q6 q7 (fun t ht => by simp [writes, ht]) (fun t ht => by simp [writes, ht]) hl2
      · exact hl.mono (fun t ht => by simp [writes, ht]) fun _ _ q => q
      · exact hl.mono (fun t ht => by simp [writes, ht]) fun _ _ q => q
    · rename_i keep W n _ _
      split at hc
      · rename_i sx sy hx hy
        split at hc
        · rename_i hap
          cases hc
          simp only [vc] at h
          have h' := h (fun xs os => vc P sy Q (zipF W xs (keep.map fun t => (t, F.get t))) os) (by
            rw [onlyK_iff, allA_iff]
            intro xs _ os q
            exact q)
          refine wp_seq (wp_mono (code_sound hD x _ sx hx st hF hN h') fun e a1 w1 hl => ?_)
          cases e <;> simp only [Lift] at hl
          · obtain ⟨F1, S1, E1, fz1, q1, q2, q3, q4, q5, q6, q7⟩ := hl
            simp only [SExit.onNormal, getsK_iff] at q1
            have hz := relF_zip (W := W) st q2 hF q4 q7 hap
            exact wp_mono (code_sound hD y _ sy hy q3 hz q5 q1) fun e a' w' hl2 => lift_wp q2 q6 q7 (fun t ht => by simp [writes, ht]) (fun t ht => by simp [writes, ht]) hl2
          · exact hl.mono (fun t ht => by simp [writes, ht]) fun _ _ q => q
          · exact hl.mono (fun t ht => by simp [writes, ht]) fun _ _ q => q
        · cases hc
      · cases hc
  | .block id x, hint, sc, hc, Q, E, fz, S, w, F, a, st, hF, hN, h => by
    cases hint <;> simp only [comp] at hc <;> first | (cases hc; done) | skip
    split at hc <;> cases hc
    rename_i sx hx
    simp only [vc] at h
    refine wp_block (wp_mono (code_sound hD x _ sx hx st hF hN h) fun e a1 w1 hl => ?_)
    cases e <;> simp only [Lift] at hl
    · exact hl.mono (fun t ht => ht) fun _ _ q => q
    · rename_i id'
      simp only [Exit.inBlock]
      by_cases e : id' = id
      · subst e
        rw [if_pos rfl]
        refine hl.mono (fun t ht => ht) fun _ _ q => ?_
        simpa [SExit.onBlock, Nat.beq_refl] using q
      · rw [if_neg e]
        refine hl.mono (fun t ht => ht) fun _ _ q => ?_
        have : Nat.beq id' id = false := by
          cases hb : Nat.beq id' id with
          | false => rfl
          | true => exact (e (Nat.eq_of_beq_eq_true hb)).elim
        simpa [SExit.onBlock, this] using q
    · exact hl.mono (fun t ht => ht) fun _ _ q => q
  | .loop x, hint, sc, hc, Q, E, fz, S, w, F, a, st, hF, hN, h => by
    cases hint <;> simp only [comp] at hc <;> first | (cases hc; done) | skip
    rename_i keep W n _
    split at hc
    · rename_i sx hx
      split at hc
      · rename_i hap
        cases hc
        simp only [vc] at h
        obtain ⟨I, h0, hr⟩ := h
        rw [getsK_iff] at h0
        obtain ⟨k0, h0⟩ := h0
        rw [onlyK_iff, allA_iff] at hr
        refine wp_loop_ghost (fun k a1 w1 => ∃ xs os E1 fz1, xs.length = W.length ∧ I k xs os ∧ Ext E fz S w E1 fz1 os w1 ∧ St E1 fz1 os w1 ∧ RelF E1 fz1 w1 (zipF W xs (keep.map fun t => (t, F.get t))) a1.tmps ∧ a1.tmps.size = N ∧ a1.defers = a.defers ∧
          ∀ t, t ∉ writes sx → a1.tmps[t]? = a.tmps[t]?) k0 ?_ ?_
        · exact ⟨_, S, E, fz, by simp, h0, .refl, st, relF_zip (W := W) st .refl hF hF (fun _ _ => rfl) hap, hN, rfl, fun _ _ => rfl⟩
        · rintro k a1 w1 ⟨xs, os, E1, fz1, l1, hI, p1, p2, p3, p4, p5, p6⟩
          refine wp_mono (code_sound hD x _ sx hx p2 p3 p4 (hr xs l1 k os hI)) fun e a2 w2 hl => ?_
          cases e <;> simp only [Lift] at hl
          · obtain ⟨F2, S2, E2, fz2, q1, q2, q3, q4, q5, q6, q7⟩ := hl
            simp only [SExit.onNormal, getsK_iff] at q1
            obtain ⟨k', hk', q1⟩ := q1
            refine ⟨k', hk', _, _, E2, fz2, by simp, q1, p1.trans q2, q3, ?_, q5, by rw [q6, p5], fun t ht => by rw [q7 t ht, p6 t ht]⟩
            exact relF_zip (W := W) st (p1.trans q2) hF q4 (fun t ht => by rw [q7 t ht, p6 t ht]) hap
          · exact hl.trans p1 p5 p6 (fun t ht => ht) (fun t ht => ht)
          · exact hl.trans p1 p5 p6 (fun t ht => ht) (fun t ht => ht)
      · cases hc
    · cases hc
  | .rangeFunc .., hint, sc, hc, _, _, _, _, _, _, _, _, _, _, h => by simp only [comp] at hc; cases hc; exact h.elim
  | .scope _, hint, sc, hc, _, _, _, _, _, _, _, _, _, _, h => by simp only [comp] at hc; cases hc; exact h.elim
  | .label _, hint, sc, hc, _, _, _, _, _, _, _, _, _, _, h => by simp only [comp] at hc; cases hc; exact h.elim
  | .goto _, hint, sc, hc, _, _, _, _, _, _, _, _, _, _, h => by simp only [comp] at hc; cases hc; exact h.elim
  | .refuse _, hint, sc, hc, _, _, _, _, _, _, _, _, _, _, h => by simp only [comp] at hc; cases hc; exact h.elim
end
end Go.Vc
