/-
  From the typed conditions of a function to its contract.
-/
import Derived.Test.YtigcaalfadoiaaaVyL
set_option linter.unusedVariables false
set_option linter.unusedSimpArgs false
namespace Go.Vc

theorem mpr' {p q : Prop} (h : p) (e : p = q) : q := e ▸ h

/-- A law's contract: true, whatever its arguments are. -/
def lawCt (ts : Tys) : Ct := ⟨ts, [.val .bool], okTs ts, fun _ => true⟩
theorem law_use {P : Program} {f : FuncId} {ts : Tys} (h : Con P f (lawCt ts)) (x : Ts ts) (hx : okTs ts x) : ACalls P f (encAs ts x) [] (fun r _ => r = .bool true) :=
  ⟨fun E fz w vals st hrel => ((h.2 x hx).out E fz w vals st hrel).mono fun e w' ⟨r, S', v, E', fz', h1, h2, h3, h4, h5⟩ => by
    obtain ⟨ys, h6, rfl⟩ := h5
    simp only [lawCt, resA] at h6
    obtain ⟨ys', rfl, rfl, h7⟩ := h6
    exact ⟨_, S', v, E', fz', h1, h2, h3, h4, rfl⟩⟩

structure FiOk (P : Program) (f : Nat) (fi : Fi) : Prop where
  able : callable P f = true
  out : ∀ {args : List AVal} {S : Store} {R : AVal → Store → Prop}, vcFun P fi.code fi.res args S R → args.length ≤ fi.n → ACalls P f args S R
def Fis (P : Program) : List (Nat × Fi) → Prop
  | [] => True
  | (f, fi) :: L => FiOk P f fi ∧ Fis P L
theorem Fis.look {P : Program} : ∀ {L : List (Nat × Fi)} {f : Nat} {fi : Fi}, Fis P L → lookN L f = some fi → FiOk P f fi
  | [], _, _, _, h => by simp [lookN] at h
  | (g, c) :: L, f, ct, hc, h => by
    simp only [lookN] at h
    split at h
    · rename_i hb; cases h; rw [← beq_eq hb]; exact hc.1
    · exact Fis.look hc.2 h

theorem arg_sim {H : HF} : ∀ {xs : List TV} {ys : List AVal} (i : Nat), SimL H xs ys → SimF H (argT i xs) (argF i ys) ∧ PlainF (argT i xs)
  | [], ys, i, h => ⟨fun s gs P x hx => by simp [argT, lookN] at hx, fun s gs P x hx => by simp [argT, lookN] at hx⟩
  | x :: xs, ys, i, h => by
    simp only [SimL] at h
    obtain ⟨y, zs, rfl, h1, h2⟩ := h
    obtain ⟨g1, g2⟩ := arg_sim (i + 1) h2
    refine ⟨fun s gs P z hz => ?_, fun s gs P z hz => ?_⟩ <;> simp only [argT, lookN] at hz
    · simp only [argF]
      split at hz
      · rename_i hb
        cases hz
        rw [← beq_eq hb]
        exact plainEnt (by rw [get_cons, if_pos rfl]; exact h1)
      · rename_i hb
        have hne : i ≠ s := fun e => by subst e; simp at hb
        obtain ⟨rfl, rfl⟩ := g2 _ _ _ _ hz
        exact plainEnt (by rw [get_cons, if_neg hne]; exact (g1 _ _ _ _ hz).on holds_nil)
    · split at hz
      · cases hz; exact ⟨rfl, rfl⟩
      · exact g2 _ _ _ _ hz

theorem res_sound {H : HF} {TS : List TOb} {S : Store} {F : RF} {A : Frame} (st : St3 H TS S) (hF : SimF H F A) : ∀ {rs : List RRes} {xs : List TV} {K : List AVal → Prop}, resV F TS rs = some xs → (∀ ys, SimL H xs ys → K ys) → wRes A S K rs
  | [], xs, K, h, hk => by simp only [resV, Option.some.injEq] at h; subst h; exact hk _ (by simp [SimL])
  | .tmp t :: rs, xs, K, h, hk => by
    simp only [resV] at h
    split at h <;> cases h
    rename_i zs hz
    simp only [wRes, getK_iff]
    exact res_sound st hF hz fun ys hs => hk _ (by simp only [SimL]; exact ⟨_, _, rfl, lookT_sim hF t, hs⟩)
  | .cell t n ag :: rs, xs, K, h, hk => by
    simp only [resV] at h
    split at h
    · rename_i l off hl
      split at h
      · rename_i k cs ho
        split at h
        · rename_i us hu
          split at h <;> cases h
          rename_i y zs hm hz
          simp only [wRes, getK_iff]
          have hs := lookT_sim hF t
          rw [hl] at hs
          have he : evLoad TS n ag (.ptr l off) = some ([], y) := by simp [evLoad, ho, partV, hu, hm]
          exact load_sound' st he hs fun z hz' => res_sound st hF hz fun ys hs => hk _ (by simp only [SimL]; exact ⟨_, _, rfl, hz', hs⟩)
        · cases h
      · cases h
    · cases h

theorem retV_iff {ys : List AVal} {K : AVal → Prop} : retV ys K ↔ K (retA ys) := by
  match ys with
  | [] => exact Iff.rfl
  | [x] => exact Iff.rfl
  | x :: y :: ys => exact Iff.rfl

section
variable {P : Program} {Γ : List (Nat × Ct)} {call : Nat → List TV → List RF → List TOb → (TV → List RF → List TOb → Prop) → Prop}

theorem tFunL_sound (hΓ : Cons P Γ) (hC : CallOk P call) {hi : Hi} {c : SCode} {an : An} {res : List RRes} {xs : List TV} {G : List RF} {TS : List TOb} {K : List TV → List RF → List TOb → Prop} {H : HF} {S : Store} {AG : List Frame} {ys : List AVal} {R : AVal → Store → Prop}
    (h : tFunL Γ call hi c an res xs G TS K) (st : St3 H TS S) (hG : SimG H G AG) (hs : SimL H xs ys) (hR : ∀ zs us S' H' G' TS', K zs G' TS' → St3 H' TS' S' → SimG H' G' AG → SimL H' zs us → R (retA us) S') : vcFun P c res ys S R := by
  unfold vcFun
  have fin : ∀ {A' : Frame} {S' : Store} {H' : HF} {F' : RF} {G' : List RF} {TS' : List TOb}, St3 H' TS' S' → SimF H' F' A' → SimG H' G' AG → (match resV F' TS' res with | some xs => K xs G' TS' | none => False) → wRes A' S' (fun xs => retV xs fun r => R r S') res := fun q1 q2 q3 q4 => by
    split at q4
    · rename_i zs hz
      exact res_sound q1 q2 hz fun us hu => retV_iff.2 (hR _ _ _ _ _ _ q4 q1 q3 hu)
    · exact q4.elim
  refine tvc_sound hΓ hC hi c an st (arg_sim 0 hs).1 hG h fun e A' S' H' F' G' TS' q1 q2 q3 q4 => ?_
  cases e with
  | normal => exact fin q1 q2 q3 q4
  | exit id => exact q4.elim
  | ret => exact fin q1 q2 q3 q4

theorem callN_ok (hΓ : Cons P Γ) {L : List (Nat × Fi)} (hL : Fis P L) : ∀ n, CallOk P (callN Γ L n)
  | 0 => ⟨fun h => h.elim, fun h => h.elim⟩
  | n + 1 => by
    have ih := callN_ok hΓ hL n
    refine ⟨fun {f xs G TS K} h {H S AG ys} st hG hs => ?_, fun {f xs G TS K} h => ?_⟩ <;> simp only [callN] at h
    · split at h
      · rename_i fi hf
        split at h
        · rename_i hb
          have ok := hL.look hf
          refine ok.out (tFunL_sound hΓ ih (R := fun r S' => ∃ H' G' TS' x, K x G' TS' ∧ St3 H' TS' S' ∧ SimG H' G' AG ∧ SimV H' x r) h st hG hs fun zs us S' H' G' TS' q1 q2 q3 q4 => ⟨H', G', TS', retT zs, q1, q2, q3, ret_sim q4⟩) ?_
          rw [hs.length]
          exact Nat.le_of_ble_eq_true hb
        · exact h.elim
      · exact h.elim
    · split at h
      · rename_i fi hf
        exact (hL.look hf).able
      · exact h.elim

theorem decA0_le {H : HF} {t : Ty} {x : TV} {a : T t} {y : AVal} (h : decA [] t x = some a) (hs : SimV H x y) : LeV y (encA t a) := by
  intro E fz w v hr
  cases t with
  | sl e =>
    simp only [decA] at h
    unfold decS at h
    split at h
    · split at h <;> cases h
      rename_i hh _
      subst hh
      simp only [SimV] at hs
      subst hs
      exact hr
    · cases h
      simp only [SimV] at hs
      subst hs
      simp only [Rel, encA] at hr ⊢
      exact .inl ⟨rfl, none, 0, hr⟩
    · simp [objAt] at h
    · simp [objAt] at h
    · cases h
  | int k =>
    simp only [decA, decAI] at h
    split at h
    · rename_i k' n hi
      split at h <;> cases h
      rename_i hk
      have hk := kEq_eq hk
      subst hk
      rw [asI_sim hi hs] at hr
      exact hr
    · cases h
  | str =>
    simp only [decA] at h
    unfold decAS at h
    split at h <;> cases h
    simp only [SimV] at hs
    subst hs
    exact hr
  | bool =>
    simp only [decA] at h
    rw [asB_sim h hs] at hr
    exact hr
  | st fs =>
    simp only [decA] at h
    unfold decAg at h
    split at h
    · split at h <;> cases h
      rename_i hd
      simp only [SimV] at hs
      obtain ⟨xs, rfl, hs⟩ := hs
      obtain ⟨zs, rfl, hz⟩ := decCs_sim fs hd hs
      simp only [SimL] at hz
      subst hz
      rw [List.append_nil] at hr
      exact hr
    · cases h

theorem hasN_mem : ∀ {l : List Nat} {n : Nat}, hasN l n = false → n ∉ l
  | [], _, _ => by simp
  | a :: l, n, h => by
    simp only [hasN] at h
    split at h
    · cases h
    · rename_i hb
      intro hm
      rcases List.mem_cons.1 hm with e | e
      · subst e; simp at hb
      · exact hasN_mem h e

/-- One part of an answer. -/
def one1 (r : RTy) (a : RT r) (n : Nat) (y y' : AVal) (S : Store) (L : List (Nat × Ob)) : Prop :=
  match r, a with
  | .val t, a => LeV y y' ∧ y' = encA t a ∧ L = []
  | .own t, a => (∃ p v o0, y = .sl p v 0 (List.length (α := T t) a) ∧ y' = .sl n v 0 (List.length (α := T t) a) ∧ S[p]? = some o0 ∧ LeO o0 (.row v (szT t) (List.flatMap (α := T t) (encT t) a)) ∧ L = [(p, .row v (szT t) (List.flatMap (α := T t) (encT t) a))]) ∨ (a = ([] : List (T t)) ∧ y = .nils ∧ y' = .nils ∧ L = [])

def objIs (x : TV) (l : Nat) : Prop := x = .slf l ∨ ∃ o n, x = .sl l o n
theorem resO_sound {H : HF} {TS : List TOb} {S : Store} (st : St3 H TS S) {r : RTy} {x : TV} {ps : List Prop} {a : RT r} {y : AVal} (h : resO TS r x = some (ps, a)) (hps : AllP ps) (hs : SimV H x y) (n : Nat) :
    ∃ y' L, one1 r a n y y' S L ∧ ∀ q ∈ L, ∃ l hd v, objIs x l ∧ (∃ t, r = .own t) ∧ H l = some hd ∧ hd.loc = some (q.1, v) := by
  cases r with
  | val t =>
    simp only [resO] at h
    split at h <;> cases h
    rename_i ha
    exact ⟨encA t a, [], ⟨decA0_le ha hs, rfl, rfl⟩, by simp⟩
  | own t =>
    simp only [resO] at h
    unfold subO at h
    split at h
    · rename_i l off len
      split at h
      · rename_i e ls ho
        split at h <;> cases h
        rename_i hh _
        subst hh
        have h0 : off = 0 := hps.cons.1
        obtain ⟨loc, q1, q2⟩ := row_get st ho
        simp only [SimV] at hs
        obtain ⟨hd, e1, r1, r2, r3, e2⟩ := hs
        rw [q1] at e1; cases e1
        simp only at r3 e2
        have hl : (ls.take len.toNat).length = len.toNat := by simp; omega
        cases loc with
        | none =>
          simp only [RowAt] at q2
          subst q2
          simp only [slA] at e2
          exact ⟨.nils, [], .inr ⟨by simp, e2, rfl, rfl⟩, by simp⟩
        | some q =>
          obtain ⟨p, v⟩ := q
          simp only [slA, h0, Int.toNat_zero, Nat.zero_mul] at e2
          simp only [RowAt] at q2
          refine ⟨.sl n v 0 (ls.take len.toNat).length, _, .inl ⟨p, v, _, by rw [hl]; exact e2, rfl, q2, ?_, rfl⟩, fun p' hp => ?_⟩
          · have e5 : ls.flatMap (encT e) = (ls.take len.toNat).flatMap (encT e) ++ (ls.drop len.toNat).flatMap (encT e) := by rw [← List.flatMap_append, List.take_append_drop]
            have e6 := flatMap_length (encT_length e) (ls.take len.toNat)
            have := LeO.trunc (v := v) (k := szT e) (cs := ls.flatMap (encT e)) ((ls.take len.toNat).length * szT e)
            rw [e5, List.take_left' e6, ← e5] at this
            exact this
          · simp at hp
            subst hp
            exact ⟨l, _, v, .inr ⟨off, len, rfl⟩, ⟨_, rfl⟩, q1, rfl⟩
      · cases h
    · split at h <;> cases h
      rename_i h
      unfold decO at h
      split at h
      · cases h
        simp only [SimV] at hs
        exact ⟨.nils, [], .inr ⟨rfl, hs, rfl, rfl⟩, by simp⟩
      · rename_i l _
        split at h
        · rename_i e ls ho
          split at h <;> cases h
          rename_i hh _
          subst hh
          obtain ⟨loc, q1, q2⟩ := row_get st ho
          simp only [SimV] at hs
          obtain ⟨hd, e1, rfl⟩ := hs
          rw [q1] at e1; cases e1
          cases loc with
          | none =>
            simp only [RowAt] at q2
            subst q2
            exact ⟨.nils, [], .inr ⟨rfl, rfl, rfl, rfl⟩, by simp⟩
          | some q =>
            obtain ⟨p, v⟩ := q
            refine ⟨.sl n v 0 ls.length, _, .inl ⟨p, v, _, rfl, rfl, q2, .refl _, rfl⟩, fun p' hp => ?_⟩
            simp at hp
            subst hp
            exact ⟨l, _, v, .inl rfl, ⟨_, rfl⟩, q1, rfl⟩
        · cases h
      · cases h

theorem resK_cons {TS : List TOb} {r : RTy} {rs : List RTy} {x : TV} {xs : List TV} {K : RTs (r :: rs) → Prop} (h : resK TS (r :: rs) (x :: xs) K) :
    ∃ ps a, resO TS r x = some (ps, a) ∧ AllP ps ∧ resK TS rs xs fun y => ∀ z : RTs (r :: rs), hdR r rs z = a → tlR r rs z = y → K z := by
  cases rs with
  | nil =>
    simp only [resK] at h
    split at h
    · rename_i e
      cases e
      split at h
      · rename_i ps a ha
        rw [conj_iff] at h
        refine ⟨ps, a, ha, h.1, ?_⟩
        simp only [resK]
        intro z hz _
        have : z = a := hz
        rw [this]; exact h.2
      · exact h.elim
    · exact h.elim
  | cons s rs =>
    simp only [resK] at h
    split at h
    · rename_i ps a ha
      rw [conj_iff] at h
      refine ⟨ps, a, ha, h.1, ?_⟩
      have mono : ∀ (rs : List RTy) (xs : List TV) {K K' : RTs rs → Prop}, (∀ y, K y → K' y) → resK TS rs xs K → resK TS rs xs K' := by
        intro rs
        induction rs with
        | nil => intro xs K K' hm h; cases xs <;> simp only [resK] at * ; exact hm _ h
        | cons r rs ih =>
          intro xs K K' hm h
          cases rs with
          | nil =>
            simp only [resK] at *
            split at h
            · split at h
              · rw [conj_iff] at h ⊢; exact ⟨h.1, hm _ h.2⟩
              · exact h.elim
            · exact h.elim
          | cons s rs =>
            simp only [resK] at *
            cases xs with
            | nil => exact h
            | cons x xs =>
              simp only at *
              split at h
              · rw [conj_iff] at h ⊢; exact ⟨h.1, ih _ (fun y hy => hm _ hy) h.2⟩
              · exact h.elim
      exact mono _ _ (fun y hy z h1 h2 => by
        have : z = (a, y) := by
          obtain ⟨z1, z2⟩ := z
          simp only [hdR, tlR] at h1 h2
          rw [h1, h2]
        rw [this]; exact hy) h.2
    · exact h.elim
theorem mkRTs (r : RTy) : ∀ (rs : List RTy) (a : RT r) (y : RTs rs), ∃ z : RTs (r :: rs), hdR r rs z = a ∧ tlR r rs z = y
  | [], a, y => ⟨a, rfl, rfl⟩
  | _ :: _, a, y => ⟨(a, y), rfl, rfl⟩

theorem ownN_own {t : Ty} {rs : List RTy} {x : TV} {xs : List TV} {l : Nat} (h : objIs x l) : ownN (.own t :: rs) (x :: xs) = l :: ownN rs xs := by
  rcases h with rfl | ⟨o, n, rfl⟩ <;> rfl
theorem ownN_not {t : Ty} {rs : List RTy} {x : TV} {xs : List TV} (h : ∀ l, ¬ objIs x l) : ownN (.own t :: rs) (x :: xs) = ownN rs xs := by
  cases x <;> first | rfl | exact (h _ (.inl rfl)).elim | exact (h _ (.inr ⟨_, _, rfl⟩)).elim
theorem objIs_eq {x : TV} {l m : Nat} (h : objIs x l) (g : objIs x m) : l = m := by
  rcases h with rfl | ⟨o, n, rfl⟩ <;> rcases g with g | ⟨_, _, g⟩ <;> cases g <;> rfl

theorem resK_sound {H : HF} {TS : List TOb} {S : Store} (st : St3 H TS S) : ∀ (rs : List RTy) {xs : List TV} {ys : List AVal} {K : RTs rs → Prop} (n : Nat), resK TS rs xs K → SimL H xs ys → distinct (ownN rs xs) = true →
    ∃ (z : RTs rs) (L : List (Nat × Ob)) (ys' : List AVal), K z ∧ LeL ys ys' ∧ resA rs z n ys' (L.map (·.2)) ∧ (∀ q ∈ L, ∃ o0, S[q.1]? = some o0 ∧ LeO o0 q.2) ∧ (L.map (·.1)).Nodup ∧ ∀ q ∈ L, ∃ l ∈ ownN rs xs, ∃ hd v, H l = some hd ∧ hd.loc = some (q.1, v)
  | [], xs, ys, K, n, h, hs, hd => by
    cases xs with
    | nil =>
      simp only [resK] at h
      simp only [SimL] at hs
      subst hs
      exact ⟨(), [], [], h, .nil, by simp [resA], by simp, by simp, by simp⟩
    | cons => simp only [resK] at h
  | r :: rs, [], ys, K, n, h, hs, hd => by cases rs <;> simp only [resK] at h
  | r :: rs, x :: xs, ys, K, n, h, hs, hd => by
    obtain ⟨ps, a, ha, hps, h⟩ := resK_cons h
    simp only [SimL] at hs
    obtain ⟨y, zs, rfl, s1, s2⟩ := hs
    obtain ⟨y', L1, o1, o2⟩ := resO_sound st ha hps s1 n
    have hd2 : distinct (ownN rs xs) = true ∧ ∀ l, objIs x l → (∃ t, r = .own t) → l ∉ ownN rs xs := by
      cases r with
      | val t =>
        simp only [ownN] at hd
        exact ⟨hd, fun l _ ⟨t', e⟩ => by cases e⟩
      | own t =>
        by_cases hx : ∃ l, objIs x l
        · obtain ⟨l, hx⟩ := hx
          rw [ownN_own hx] at hd
          simp only [distinct] at hd
          split at hd
          · cases hd
          · rename_i hh
            exact ⟨hd, fun l' e _ => by rw [objIs_eq e hx]; exact hasN_mem hh⟩
        · rw [ownN_not fun l hl => hx ⟨l, hl⟩] at hd
          exact ⟨hd, fun l e => (hx ⟨l, e⟩).elim⟩
    have sub : ∀ l, l ∈ ownN rs xs → l ∈ ownN (r :: rs) (x :: xs) := fun l hl => by
      cases r <;> cases x <;> simp only [ownN] <;> first | exact hl | exact List.mem_cons_of_mem _ hl
    obtain ⟨z, L2, ys', g1, g2, g3, g4, g5, g6⟩ := resK_sound st rs (n + L1.length) h s2 hd2.1
    obtain ⟨Z, e1, e2⟩ := mkRTs r rs a z
    refine ⟨Z, L1 ++ L2, y' :: ys', g1 Z e1 e2, ?_, ?_, ?_, ?_, ?_⟩
    · refine .cons ?_ g2
      cases r with
      | val t => exact o1.1
      | own t =>
        rcases o1 with ⟨p, v, o0, rfl, rfl, _⟩ | ⟨_, rfl, rfl, _⟩
        · exact .sl
        · exact .refl _
    · cases r with
      | val t =>
        obtain ⟨_, rfl, rfl⟩ := o1
        simp only [resA]
        refine ⟨ys', by rw [e1], ?_⟩
        rw [e2]
        simpa using g3
      | own t =>
        rcases o1 with ⟨p, v, o0, rfl, rfl, q3, _, rfl⟩ | ⟨q1, rfl, rfl, rfl⟩
        · simp only [resA]
          refine .inl ⟨v, ys', L2.map (·.2), by rw [e1], ?_, ?_⟩
          · rw [e1]; simp
          · rw [e2]; simpa using g3
        · simp only [resA]
          refine .inr ⟨by rw [e1]; exact q1, ys', rfl, ?_⟩
          rw [e2]
          simpa using g3
    · intro q hq
      rcases List.mem_append.1 hq with hq | hq
      · cases r with
        | val t => obtain ⟨_, _, rfl⟩ := o1; cases hq
        | own t =>
          rcases o1 with ⟨p, v, o0, _, _, q3, q4, rfl⟩ | ⟨_, _, _, rfl⟩
          · simp at hq; subst hq; exact ⟨o0, q3, q4⟩
          · cases hq
      · exact g4 q hq
    · rw [List.map_append, List.nodup_append]
      refine ⟨?_, g5, fun p hp q hq e => ?_⟩
      · cases r with
        | val t => obtain ⟨_, _, rfl⟩ := o1; simp
        | own t => rcases o1 with ⟨_, _, _, _, _, _, _, rfl⟩ | ⟨_, _, _, rfl⟩ <;> simp
      · subst e
        obtain ⟨a1, ha1, rfl⟩ := List.mem_map.1 hp
        obtain ⟨a2, ha2, he⟩ := List.mem_map.1 hq
        obtain ⟨l, hd, v, h0, h0', h1, h2⟩ := o2 a1 ha1
        obtain ⟨l', hl', hd', v', h3, h4⟩ := g6 a2 ha2
        rw [he] at h4
        have := st.inj _ _ _ _ _ _ _ h1 h3 h2 h4
        subst this
        exact hd2.2 l h0 h0' hl'
    · intro p hp
      rcases List.mem_append.1 hp with hp | hp
      · obtain ⟨l, hd', v, h0, ⟨t, h0'⟩, h1, h2⟩ := o2 p hp
        subst h0'
        exact ⟨l, by rw [ownN_own h0]; simp, hd', v, h1, h2⟩
      · obtain ⟨l, hl, q⟩ := g6 p hp
        exact ⟨l, sub l hl, q⟩

theorem eqR_eq : ∀ (rs : List RTy) {x y : RTs rs}, eqR rs x y → x = y
  | [], _, _, _ => rfl
  | [_], _, _, h => h
  | r :: s :: rs, (x1, x2), (y1, y2), h => by
    simp only [eqR] at h
    rw [h.1, eqR_eq (s :: rs) h.2]

theorem retA_le : ∀ {xs ys : List AVal}, LeL xs ys → LeV (retA xs) (retA ys) := fun {xs ys} h => by
  cases h with
  | nil => exact .refl _
  | cons h1 h2 => cases h2 with
    | nil => exact h1
    | cons h3 h4 => exact .tup (.cons h1 (.cons h3 h4))

def lenTys : Tys → Nat
  | .nil => 0
  | .cons _ ts => lenTys ts + 1
theorem encAs_length : ∀ (ts : Tys) (x : Ts ts), (encAs ts x).length = lenTys ts
  | .nil, _ => rfl
  | .cons t .nil, x => rfl
  | .cons t (.cons u ts), (x, y) => by
    have := encAs_length (.cons u ts) y
    simp only [encAs, List.length_cons, this, lenTys]

/-- A function's contract from its typed conditions. -/
theorem con_of (hΓ : Cons P Γ) {L : List (Nat × Fi)} (hL : Fis P L) {f : Nat} {fi : Fi} {ct : Ct} (hf : FiOk P f fi) {depth : Nat} (hn : Nat.ble (lenTys ct.args) fi.n = true) (x : Ts ct.args) (h : tCon Γ L depth fi ct x) : ACalls P f (encAs ct.args x) [] (resR ct.res (ct.fn x)) := by
  have hlen : (encAs ct.args x).length ≤ fi.n := by rw [encAs_length]; exact Nat.le_of_ble_eq_true hn
  refine (hf.out (R := fun r S' => ∃ H' TS' zs us, (match distinct (ownN ct.res zs) with | true => resK TS' ct.res zs fun y => eqR ct.res y (ct.fn x) | false => False) ∧ St3 H' TS' S' ∧ SimL H' zs us ∧ r = retA us)
    (tFunL_sound hΓ (callN_ok hΓ hL depth) h St3.nil .nil (tvAs_sim ct.args x) fun zs us S' H' G' TS' q1 q2 q3 q4 => ⟨H', TS', zs, us, q1, q2, q4, rfl⟩) hlen).weak ?_
  rintro r S' ⟨H', TS', zs, us, h1, h2, h3, rfl⟩
  split at h1
  · rename_i hd
    obtain ⟨z, L, ys', g1, g2, g3, g4, g5, _⟩ := resK_sound h2 ct.res 0 h1 h3 hd
    have e := eqR_eq ct.res g1
    subst e
    refine ⟨retA ys', fun l => (L.map (·.1)).getD l 0, L.map (·.2), retA_le g2, ⟨fun l l' hl hl' e => ?_, fun l o hl => ?_⟩, ys', g3, rfl⟩
    · have h1 : l < (L.map (·.1)).length := by simpa using hl
      have h2 : l' < (L.map (·.1)).length := by simpa using hl'
      simp only [List.getD_eq_getElem?_getD, List.getElem?_eq_getElem h1, List.getElem?_eq_getElem h2, Option.getD_some] at e
      exact (List.getElem_inj g5).1 e
    · rw [List.getElem?_map] at hl
      cases hp : L[l]? with
      | none => rw [hp] at hl; cases hl
      | some p =>
        rw [hp] at hl
        simp at hl
        subst hl
        obtain ⟨o0, k1, k2⟩ := g4 p (List.mem_of_getElem? hp)
        refine ⟨o0, ?_, k2⟩
        simp only [List.getD_eq_getElem?_getD, List.getElem?_map, hp, Option.map_some, Option.getD_some]
        exact k1
  · exact h1.elim
theorem con_eq (hΓ : Cons P Γ) {L : List (Nat × Fi)} (hL : Fis P L) {f : Nat} {fi : Fi} {ct : Ct} (hf : FiOk P f fi) {depth : Nat} (hn : Nat.ble (lenTys ct.args) fi.n = true) (x : Ts ct.args) {T : Prop} (h : T) (e : T = tCon Γ L depth fi ct x) : ACalls P f (encAs ct.args x) [] (resR ct.res (ct.fn x)) :=
  con_of hΓ hL hf hn x (e ▸ h)
end
/-- A list that is handed back and that nobody writes from here on: a value. -/
theorem Con.frozen {P : Program} {f : FuncId} {args : Tys} {t : Ty} {pre : Ts args → Prop} {fn : Ts args → List (T t)} (h : Con P f ⟨args, [.own t], pre, fn⟩) : Con P f ⟨args, [.val (.sl t)], pre, fn⟩ := by
  refine ⟨h.1, fun x hx => ACalls.freeze 1 (ACallsMono (h.2 x hx) fun r S' hr => ?_)⟩
  obtain ⟨ys, h1, rfl⟩ := hr
  refine ⟨[encA (.sl t) (fn x)], ⟨[], rfl, rfl, rfl⟩, ?_⟩
  rcases h1 with ⟨v, ys', S1, rfl, rfl, rfl, rfl⟩ | ⟨h0, ys', rfl, rfl, rfl⟩
  · simp only [retA, deref, hdR, encA, List.getElem?_cons_zero, if_pos, List.drop_zero]
    simp [deref]
  · simp only [retA, deref, encA]
    have h0 : fn x = [] := h0
    rw [h0]
    rfl
end Go.Vc
