/-
  From the typed conditions of a function to its contract.
-/
import Derived.Test.YtfelfimcnidplaaVyL
set_option linter.unusedVariables false
set_option linter.unusedSimpArgs false
namespace Go.Vc

theorem mpr' {p q : Prop} (h : p) (e : p = q) : q := e ▸ h

/-- A law's contract: true, whatever its arguments are. -/
def lawCt (ts : Tys) : Ct := ⟨ts, [.val .bool], okTs ts, fun _ => true⟩
theorem law_use {P : Program} {f : FuncId} {ts : Tys} (h : Con P f (lawCt ts)) (x : Ts ts) (hx : okTs ts x) : callable P f = true ∧ ACalls P f (encAs ts x) [] (fun r _ => r = .bool true) :=
  ⟨h.1, ⟨fun E fz w vals st hrel => ((h.2 x hx).out E fz w vals st hrel).mono fun e w' ⟨r, S', v, E', fz', h1, h2, h3, h4, h5⟩ => by
    obtain ⟨ys, h6, rfl⟩ := h5
    simp only [lawCt, resA] at h6
    obtain ⟨ys', rfl, rfl, h7⟩ := h6
    exact ⟨_, S', v, E', fz', h1, h2, h3, h4, rfl⟩⟩⟩

def SpOk (P : Program) (f : Nat) (s : Sp) : Prop := ∀ {xs : List TV} {G : List RF} {TS : List TOb} {ps : List Prop} {y : TV} {G' : List RF} {TS' : List TOb}, s.ev xs G TS = some (ps, y, G', TS') → AllP ps →
  ∀ {H : HF} {S : Store} {AG : List Frame} {ys : List AVal}, St3 H TS S → SimG H G AG → SimL H xs ys → ACalls P f ys S fun r S' => ∃ H', St3 H' TS' S' ∧ SimG H' G' AG ∧ SimV H' y r
structure FiOk (P : Program) (f : Nat) (fi : Fi) : Prop where
  able : fi.sp = none → callable P f = true
  out : ∀ {args : List AVal} {S : Store} {R : AVal → Store → Prop}, fi.sp = none → vcFun P fi.code fi.res args S R → args.length ≤ fi.n → ACalls P f args S R
  sum : ∀ s, fi.sp = some s → SpOk P f s
def Fis (P : Program) : List (Nat × Fi) → Prop
  | [] => True
  | (f, fi) :: L => FiOk P f fi ∧ Fis P L
theorem Fis.look {P : Program} : ∀ {L : List (Nat × Fi)} {f : Nat} {fi : Fi}, Fis P L → lookN L f = some fi → FiOk P f fi
  | [], _, _, _, h => by simp [lookN] at h
  | (g, c) :: L, f, ct, hc, h => by
    simp only [lookN] at h
    split at h
    · rename_i hb; cases h; rw [← beq_eq hb]; exact hc.1
    · exact Fis.look hc.2 h

theorem arg_sim {H : HF} : ∀ {xs : List TV} {ys : List AVal} (i : Nat), SimL H xs ys → SimF H (argT i xs) (argF i ys) ∧ PlainF (argT i xs)
  | [], ys, i, h => ⟨fun s gs P x hx => by simp [argT, lookN] at hx, fun s gs P x hx => by simp [argT, lookN] at hx⟩
  | x :: xs, ys, i, h => by
    simp only [SimL] at h
    obtain ⟨y, zs, rfl, h1, h2⟩ := h
    obtain ⟨g1, g2⟩ := arg_sim (i + 1) h2
    refine ⟨fun s gs P z hz => ?_, fun s gs P z hz => ?_⟩ <;> simp only [argT, lookN] at hz
    · simp only [argF]
      split at hz
      · rename_i hb
        cases hz
        rw [← beq_eq hb]
        exact plainEnt (by rw [get_cons, if_pos rfl]; exact h1)
      · rename_i hb
        have hne : i ≠ s := fun e => by subst e; simp at hb
        obtain ⟨rfl, rfl⟩ := g2 _ _ _ _ hz
        exact plainEnt (by rw [get_cons, if_neg hne]; exact (g1 _ _ _ _ hz).on holds_nil)
    · split at hz
      · cases hz; exact ⟨rfl, rfl⟩
      · exact g2 _ _ _ _ hz

theorem res_sound {H : HF} {TS : List TOb} {S : Store} {F : RF} {A : Frame} (st : St3 H TS S) (hF : SimF H F A) : ∀ {rs : List RRes} {xs : List TV} {K : List AVal → Prop}, resV F TS rs = some xs → (∀ ys, SimL H xs ys → K ys) → wRes A S K rs
  | [], xs, K, h, hk => by simp only [resV, Option.some.injEq] at h; subst h; exact hk _ (by simp [SimL])
  | .tmp t :: rs, xs, K, h, hk => by
    simp only [resV] at h
    split at h <;> cases h
    rename_i zs hz
    simp only [wRes, getK_iff]
    exact res_sound st hF hz fun ys hs => hk _ (by simp only [SimL]; exact ⟨_, _, rfl, lookT_sim hF t, hs⟩)
  | .cell t n ag :: rs, xs, K, h, hk => by
    simp only [resV] at h
    split at h
    · rename_i l off hl
      split at h
      · rename_i k cs ho
        split at h
        · rename_i us hu
          split at h <;> cases h
          rename_i y zs hm hz
          simp only [wRes, getK_iff]
          have hs := lookT_sim hF t
          rw [hl] at hs
          have he : evLoad TS n ag (.ptr l off) = some ([], y) := by simp [evLoad, ho, partV, hu, hm]
          exact load_sound' st he hs fun z hz' => res_sound st hF hz fun ys hs => hk _ (by simp only [SimL]; exact ⟨_, _, rfl, hz', hs⟩)
        · cases h
      · cases h
    · cases h

theorem retV_iff {ys : List AVal} {K : AVal → Prop} : retV ys K ↔ K (retA ys) := by
  match ys with
  | [] => exact Iff.rfl
  | [x] => exact Iff.rfl
  | x :: y :: ys => exact Iff.rfl

section
variable {P : Program} {Γ : List (Nat × Ct)} {call : Nat → List TV → List RF → List TOb → (TV → List RF → List TOb → Prop) → Prop}

theorem tFunL_sound (hΓ : Cons P Γ) (hC : CallOk P call) {hi : Hi} {c : SCode} {an : An} {res : List RRes} {xs : List TV} {G : List RF} {TS : List TOb} {K : List TV → List RF → List TOb → Prop} {H : HF} {S : Store} {AG : List Frame} {ys : List AVal} {R : AVal → Store → Prop}
    (h : tFunL Γ call hi c an res xs G TS K) (st : St3 H TS S) (hG : SimG H G AG) (hs : SimL H xs ys) (hR : ∀ zs us S' H' G' TS', K zs G' TS' → St3 H' TS' S' → SimG H' G' AG → SimL H' zs us → R (retA us) S') : vcFun P c res ys S R := by
  unfold vcFun
  have fin : ∀ {A' : Frame} {S' : Store} {H' : HF} {F' : RF} {G' : List RF} {TS' : List TOb}, St3 H' TS' S' → SimF H' F' A' → SimG H' G' AG → (match resV F' TS' res with | some xs => K xs G' TS' | none => False) → wRes A' S' (fun xs => retV xs fun r => R r S') res := fun q1 q2 q3 q4 => by
    split at q4
    · rename_i zs hz
      exact res_sound q1 q2 hz fun us hu => retV_iff.2 (hR _ _ _ _ _ _ q4 q1 q3 hu)
    · exact q4.elim
  refine tvc_sound hΓ hC hi c an st (arg_sim 0 hs).1 hG h fun e A' S' H' F' G' TS' q1 q2 q3 q4 => ?_
  cases e with
  | normal => exact fin q1 q2 q3 q4
  | exit id => exact q4.elim
  | ret => exact fin q1 q2 q3 q4

theorem callN_ok (hΓ : Cons P Γ) {L : List (Nat × Fi)} (hL : Fis P L) : ∀ n, CallOk P (callN Γ L n)
  | 0 => ⟨fun h => h.elim⟩
  | n + 1 => by
    have ih := callN_ok hΓ hL n
    refine ⟨fun {f xs G TS K} h {H S AG ys} st hG hs => ?_⟩
    simp only [callN] at h
    · split at h
      · rename_i fi hf
        split at h
        · rename_i s hs'
          split at h
          · rename_i ps y G' TS' he
            obtain ⟨h1, h2⟩ := conj_iff.1 h
            exact ACallsMono ((hL.look hf).sum s hs' he h1 st hG hs) fun r S' ⟨H', q1, q2, q3⟩ => ⟨H', G', TS', y, h2, q1, q2, q3⟩
          · exact h.elim
        rename_i hsn
        split at h
        · rename_i hb
          have ok := hL.look hf
          refine ok.out hsn (tFunL_sound hΓ ih (R := fun r S' => ∃ H' G' TS' x, K x G' TS' ∧ St3 H' TS' S' ∧ SimG H' G' AG ∧ SimV H' x r) h st hG hs fun zs us S' H' G' TS' q1 q2 q3 q4 => ⟨H', G', TS', retT zs, q1, q2, q3, ret_sim q4⟩) ?_
          rw [hs.length]
          exact Nat.le_of_ble_eq_true hb
        · exact h.elim
      · exact h.elim

theorem decA0_le {H : HF} {t : Ty} {x : TV} {a : T t} {y : AVal} (h : decA [] t x = some a) (hs : SimV H x y) : LeV y (encA t a) := by
  intro E fz w v hr
  cases t with
  | sl e =>
    simp only [decA] at h
    unfold decS at h
    split at h
    · split at h <;> cases h
      rename_i hh _
      subst hh
      simp only [SimV] at hs
      subst hs
      exact hr
    · cases h
      simp only [SimV] at hs
      subst hs
      simp only [Rel, encA] at hr ⊢
      exact .inl ⟨rfl, none, 0, hr⟩
    · simp [objAt] at h
    · simp [objAt] at h
    · cases h
  | int k =>
    simp only [decA, decAI] at h
    split at h
    · rename_i k' n hi
      split at h <;> cases h
      rename_i hk
      have hk := kEq_eq hk
      subst hk
      rw [asI_sim hi hs] at hr
      exact hr
    · cases h
  | str =>
    simp only [decA] at h
    unfold decAS at h
    split at h <;> cases h
    simp only [SimV] at hs
    subst hs
    exact hr
  | bool =>
    simp only [decA] at h
    rw [asB_sim h hs] at hr
    exact hr
  | st fs =>
    simp only [decA] at h
    unfold decAg at h
    split at h
    · split at h <;> cases h
      rename_i hd
      simp only [SimV] at hs
      obtain ⟨xs, rfl, hs⟩ := hs
      obtain ⟨zs, rfl, hz⟩ := decCs_sim fs hd hs
      simp only [SimL] at hz
      subst hz
      rw [List.append_nil] at hr
      exact hr
    · cases h

theorem hasN_mem : ∀ {l : List Nat} {n : Nat}, hasN l n = false → n ∉ l
  | [], _, _ => by simp
  | a :: l, n, h => by
    simp only [hasN] at h
    split at h
    · cases h
    · rename_i hb
      intro hm
      rcases List.mem_cons.1 hm with e | e
      · subst e; simp at hb
      · exact hasN_mem h e

/-- One part of an answer. -/
def one1 (r : RTy) (a : RT r) (n : Nat) (y y' : AVal) (S : Store) (L : List (Nat × Ob)) : Prop :=
  match r, a with
  | .val t, a => LeV y y' ∧ y' = encA t a ∧ L = []
  | .own t, a => (∃ p v o0, y = .sl p v 0 (List.length (α := T t) a) ∧ y' = .sl n v 0 (List.length (α := T t) a) ∧ S[p]? = some o0 ∧ LeO o0 (.row v (szT t) (List.flatMap (α := T t) (encT t) a)) ∧ L = [(p, .row v (szT t) (List.flatMap (α := T t) (encT t) a))]) ∨ (a = ([] : List (T t)) ∧ y = .nils ∧ y' = .nils ∧ L = [])

def objIs (x : TV) (l : Nat) : Prop := x = .slf l ∨ ∃ o n, x = .sl l o n
theorem resO_sound {H : HF} {TS : List TOb} {S : Store} (st : St3 H TS S) {r : RTy} {x : TV} {ps : List Prop} {a : RT r} {y : AVal} (h : resO TS r x = some (ps, a)) (hps : AllP ps) (hs : SimV H x y) (n : Nat) :
    ∃ y' L, one1 r a n y y' S L ∧ ∀ q ∈ L, ∃ l hd v, objIs x l ∧ (∃ t, r = .own t) ∧ H l = some hd ∧ hd.loc = some (q.1, v) := by
  cases r with
  | val t =>
    simp only [resO] at h
    split at h <;> cases h
    rename_i ha
    exact ⟨encA t a, [], ⟨decA0_le ha hs, rfl, rfl⟩, by simp⟩
  | own t =>
    simp only [resO] at h
    unfold subO at h
    split at h
    · rename_i l off len
      split at h
      · rename_i e ls ho
        split at h <;> cases h
        rename_i hh _
        subst hh
        have h0 : off = 0 := hps.cons.1
        obtain ⟨loc, q1, q2⟩ := row_get st ho
        simp only [SimV] at hs
        obtain ⟨hd, e1, r1, r2, r3, e2⟩ := hs
        rw [q1] at e1; cases e1
        simp only at r3 e2
        have hl : (ls.take len.toNat).length = len.toNat := by simp; omega
        cases loc with
        | none =>
          simp only [RowAt] at q2
          subst q2
          simp only [slA] at e2
          exact ⟨.nils, [], .inr ⟨by simp, e2, rfl, rfl⟩, by simp⟩
        | some q =>
          obtain ⟨p, v⟩ := q
          simp only [slA, h0, Int.toNat_zero, Nat.zero_mul] at e2
          simp only [RowAt] at q2
          refine ⟨.sl n v 0 (ls.take len.toNat).length, _, .inl ⟨p, v, _, by rw [hl]; exact e2, rfl, q2, ?_, rfl⟩, fun p' hp => ?_⟩
          · have e5 : ls.flatMap (encT e) = (ls.take len.toNat).flatMap (encT e) ++ (ls.drop len.toNat).flatMap (encT e) := by rw [← List.flatMap_append, List.take_append_drop]
            have e6 := flatMap_length (encT_length e) (ls.take len.toNat)
            have := LeO.trunc (v := v) (k := szT e) (cs := ls.flatMap (encT e)) ((ls.take len.toNat).length * szT e)
            rw [e5, List.take_left' e6, ← e5] at this
            exact this
          · simp at hp
            subst hp
            exact ⟨l, _, v, .inr ⟨off, len, rfl⟩, ⟨_, rfl⟩, q1, rfl⟩
      · cases h
    · split at h <;> cases h
      rename_i h
      unfold decO at h
      split at h
      · cases h
        simp only [SimV] at hs
        exact ⟨.nils, [], .inr ⟨rfl, hs, rfl, rfl⟩, by simp⟩
      · rename_i l _
        split at h
        · rename_i e ls ho
          split at h <;> cases h
          rename_i hh _
          subst hh
          obtain ⟨loc, q1, q2⟩ := row_get st ho
          simp only [SimV] at hs
          obtain ⟨hd, e1, rfl⟩ := hs
          rw [q1] at e1; cases e1
          cases loc with
          | none =>
            simp only [RowAt] at q2
            subst q2
            exact ⟨.nils, [], .inr ⟨rfl, rfl, rfl, rfl⟩, by simp⟩
          | some q =>
            obtain ⟨p, v⟩ := q
            refine ⟨.sl n v 0 ls.length, _, .inl ⟨p, v, _, rfl, rfl, q2, .refl _, rfl⟩, fun p' hp => ?_⟩
            simp at hp
            subst hp
            exact ⟨l, _, v, .inl rfl, ⟨_, rfl⟩, q1, rfl⟩
        · cases h
      · cases h

theorem resK_cons {TS : List TOb} {r : RTy} {rs : List RTy} {x : TV} {xs : List TV} {K : RTs (r :: rs) → Prop} (h : resK TS (r :: rs) (x :: xs) K) :
    ∃ ps a, resO TS r x = some (ps, a) ∧ AllP ps ∧ resK TS rs xs fun y => ∀ z : RTs (r :: rs), hdR r rs z = a → tlR r rs z = y → K z := by
  cases rs with
  | nil =>
    simp only [resK] at h
    split at h
    · rename_i e
      cases e
      split at h
      · rename_i ps a ha
        rw [conj_iff] at h
        refine ⟨ps, a, ha, h.1, ?_⟩
        simp only [resK]
        intro z hz _
        have : z = a := hz
        rw [this]; exact h.2
      · exact h.elim
    · exact h.elim
  | cons s rs =>
    simp only [resK] at h
    split at h
    · rename_i ps a ha
      rw [conj_iff] at h
      refine ⟨ps, a, ha, h.1, ?_⟩
      have mono : ∀ (rs : List RTy) (xs : List TV) {K K' : RTs rs → Prop}, (∀ y, K y → K' y) → resK TS rs xs K → resK TS rs xs K' := by
        intro rs
        induction rs with
        | nil => intro xs K K' hm h; cases xs <;> simp only [resK] at * ; exact hm _ h
        | cons r rs ih =>
          intro xs K K' hm h
          cases rs with
          | nil =>
            simp only [resK] at *
            split at h
            · split at h
              · rw [conj_iff] at h ⊢; exact ⟨h.1, hm _ h.2⟩
              · exact h.elim
            · exact h.elim
          | cons s rs =>
            simp only [resK] at *
            cases xs with
            | nil => exact h
            | cons x xs =>
              simp only at *
              split at h
              · rw [conj_iff] at h ⊢; exact ⟨h.1, ih _ (fun y hy => hm _ hy) h.2⟩
              · exact h.elim
      exact mono _ _ (fun y hy z h1 h2 => by
        have : z = (a, y) := by
          obtain ⟨z1, z2⟩ := z
          simp only [hdR, tlR] at h1 h2
          rw [h1, h2]
        rw [this]; exact hy) h.2
    · exact h.elim
theorem mkRTs (r : RTy) : ∀ (rs : List RTy) (a : RT r) (y : RTs rs), ∃ z : RTs (r :: rs), hdR r rs z = a ∧ tlR r rs z = y
  | [], a, y => ⟨a, rfl, rfl⟩
  | _ :: _, a, y => ⟨(a, y), rfl, rfl⟩

theorem ownN_own {t : Ty} {rs : List RTy} {x : TV} {xs : List TV} {l : Nat} (h : objIs x l) : ownN (.own t :: rs) (x :: xs) = l :: ownN rs xs := by
  rcases h with rfl | ⟨o, n, rfl⟩ <;> rfl
theorem ownN_not {t : Ty} {rs : List RTy} {x : TV} {xs : List TV} (h : ∀ l, ¬ objIs x l) : ownN (.own t :: rs) (x :: xs) = ownN rs xs := by
  cases x <;> first | rfl | exact (h _ (.inl rfl)).elim | exact (h _ (.inr ⟨_, _, rfl⟩)).elim
theorem objIs_eq {x : TV} {l m : Nat} (h : objIs x l) (g : objIs x m) : l = m := by
  rcases h with rfl | ⟨o, n, rfl⟩ <;> rcases g with g | ⟨_, _, g⟩ <;> cases g <;> rfl

theorem resK_sound {H : HF} {TS : List TOb} {S : Store} (st : St3 H TS S) : ∀ (rs : List RTy) {xs : List TV} {ys : List AVal} {K : RTs rs → Prop} (n : Nat), resK TS rs xs K → SimL H xs ys → distinct (ownN rs xs) = true →
    ∃ (z : RTs rs) (L : List (Nat × Ob)) (ys' : List AVal), K z ∧ LeL ys ys' ∧ resA rs z n ys' (L.map (·.2)) ∧ (∀ q ∈ L, ∃ o0, S[q.1]? = some o0 ∧ LeO o0 q.2) ∧ (L.map (·.1)).Nodup ∧ ∀ q ∈ L, ∃ l ∈ ownN rs xs, ∃ hd v, H l = some hd ∧ hd.loc = some (q.1, v)
  | [], xs, ys, K, n, h, hs, hd => by
    cases xs with
    | nil =>
      simp only [resK] at h
      simp only [SimL] at hs
      subst hs
      exact ⟨(), [], [], h, .nil, by simp [resA], by simp, by simp, by simp⟩
    | cons => simp only [resK] at h
  | r :: rs, [], ys, K, n, h, hs, hd => by cases rs <;> simp only [resK] at h
  | r :: rs, x :: xs, ys, K, n, h, hs, hd => by
    obtain ⟨ps, a, ha, hps, h⟩ := resK_cons h
    simp only [SimL] at hs
    obtain ⟨y, zs, rfl, s1, s2⟩ := hs
    obtain ⟨y', L1, o1, o2⟩ := resO_sound st ha hps s1 n
    have hd2 : distinct (ownN rs xs) = true ∧ ∀ l, objIs x l → (∃ t, r = .own t) → l ∉ ownN rs xs := by
      cases r with
      | val t =>
        simp only [ownN] at hd
        exact ⟨hd, fun l _ ⟨t', e⟩ => by cases e⟩
      | own t =>
        by_cases hx : ∃ l, objIs x l
        · obtain ⟨l, hx⟩ := hx
          rw [ownN_own hx] at hd
          simp only [distinct] at hd
          split at hd
          · cases hd
          · rename_i hh
            exact ⟨hd, fun l' e _ => by rw [objIs_eq e hx]; exact hasN_mem hh⟩
        · rw [ownN_not fun l hl => hx ⟨l, hl⟩] at hd
          exact ⟨hd, fun l e => (hx ⟨l, e⟩).elim⟩
    have sub : ∀ l, l ∈ ownN rs xs → l ∈ ownN (r :: rs) (x :: xs) := fun l hl => by
      cases r <;> cases x <;> simp only [ownN] <;> first | exact hl | exact List.mem_cons_of_mem _ hl
    obtain ⟨z, L2, ys', g1, g2, g3, g4, g5, g6⟩ := resK_sound st rs (n + L1.length) h s2 hd2.1
    obtain ⟨Z, e1, e2⟩ := mkRTs r rs a z
    refine ⟨Z, L1 ++ L2, y' :: ys', g1 Z e1 e2, ?_, ?_, ?_, ?_, ?_⟩
    · refine .cons ?_ g2
      cases r with
      | val t => exact o1.1
      | own t =>
        rcases o1 with ⟨p, v, o0, rfl, rfl, _⟩ | ⟨_, rfl, rfl, _⟩
        · exact .sl
        · exact .refl _
    · cases r with
      | val t =>
        obtain ⟨_, rfl, rfl⟩ := o1
        simp only [resA]
        refine ⟨ys', by rw [e1], ?_⟩
        rw [e2]
        simpa using g3
      | own t =>
        rcases o1 with ⟨p, v, o0, rfl, rfl, q3, _, rfl⟩ | ⟨q1, rfl, rfl, rfl⟩
        · simp only [resA]
          refine .inl ⟨v, ys', L2.map (·.2), by rw [e1], ?_, ?_⟩
          · rw [e1]; simp
          · rw [e2]; simpa using g3
        · simp only [resA]
          refine .inr ⟨by rw [e1]; exact q1, ys', rfl, ?_⟩
          rw [e2]
          simpa using g3
    · intro q hq
      rcases List.mem_append.1 hq with hq | hq
      · cases r with
        | val t => obtain ⟨_, _, rfl⟩ := o1; cases hq
        | own t =>
          rcases o1 with ⟨p, v, o0, _, _, q3, q4, rfl⟩ | ⟨_, _, _, rfl⟩
          · simp at hq; subst hq; exact ⟨o0, q3, q4⟩
          · cases hq
      · exact g4 q hq
    · rw [List.map_append, List.nodup_append]
      refine ⟨?_, g5, fun p hp q hq e => ?_⟩
      · cases r with
        | val t => obtain ⟨_, _, rfl⟩ := o1; simp
        | own t => rcases o1 with ⟨_, _, _, _, _, _, _, rfl⟩ | ⟨_, _, _, rfl⟩ <;> simp
      · subst e
        obtain ⟨a1, ha1, rfl⟩ := List.mem_map.1 hp
        obtain ⟨a2, ha2, he⟩ := List.mem_map.1 hq
        obtain ⟨l, hd, v, h0, h0', h1, h2⟩ := o2 a1 ha1
        obtain ⟨l', hl', hd', v', h3, h4⟩ := g6 a2 ha2
        rw [he] at h4
        have := st.inj _ _ _ _ _ _ _ h1 h3 h2 h4
        subst this
        exact hd2.2 l h0 h0' hl'
    · intro p hp
      rcases List.mem_append.1 hp with hp | hp
      · obtain ⟨l, hd', v, h0, ⟨t, h0'⟩, h1, h2⟩ := o2 p hp
        subst h0'
        exact ⟨l, by rw [ownN_own h0]; simp, hd', v, h1, h2⟩
      · obtain ⟨l, hl, q⟩ := g6 p hp
        exact ⟨l, sub l hl, q⟩

theorem eqR_eq : ∀ (rs : List RTy) {x y : RTs rs}, eqR rs x y → x = y
  | [], _, _, _ => rfl
  | [_], _, _, h => h
  | r :: s :: rs, (x1, x2), (y1, y2), h => by
    simp only [eqR] at h
    rw [h.1, eqR_eq (s :: rs) h.2]

theorem retA_le : ∀ {xs ys : List AVal}, LeL xs ys → LeV (retA xs) (retA ys) := fun {xs ys} h => by
  cases h with
  | nil => exact .refl _
  | cons h1 h2 => cases h2 with
    | nil => exact h1
    | cons h3 h4 => exact .tup (.cons h1 (.cons h3 h4))

def lenTys : Tys → Nat
  | .nil => 0
  | .cons _ ts => lenTys ts + 1
theorem encAs_length : ∀ (ts : Tys) (x : Ts ts), (encAs ts x).length = lenTys ts
  | .nil, _ => rfl
  | .cons t .nil, x => rfl
  | .cons t (.cons u ts), (x, y) => by
    have := encAs_length (.cons u ts) y
    simp only [encAs, List.length_cons, this, lenTys]

/-- A function's contract from its typed conditions. -/
theorem con_of (hΓ : Cons P Γ) {L : List (Nat × Fi)} (hL : Fis P L) {f : Nat} {fi : Fi} {ct : Ct} (hf : FiOk P f fi) {depth : Nat} (hsp : fi.sp = none) (hn : Nat.ble (lenTys ct.args) fi.n = true) (x : Ts ct.args) (h : tCon Γ L depth fi ct x) : ACalls P f (encAs ct.args x) [] (resR ct.res (ct.fn x)) := by
  have hlen : (encAs ct.args x).length ≤ fi.n := by rw [encAs_length]; exact Nat.le_of_ble_eq_true hn
  refine (hf.out hsp (R := fun r S' => ∃ H' TS' zs us, (match distinct (ownN ct.res zs) with | true => resK TS' ct.res zs fun y => eqR ct.res y (ct.fn x) | false => False) ∧ St3 H' TS' S' ∧ SimL H' zs us ∧ r = retA us)
    (tFunL_sound hΓ (callN_ok hΓ hL depth) h St3.nil .nil (tvAs_sim ct.args x) fun zs us S' H' G' TS' q1 q2 q3 q4 => ⟨H', TS', zs, us, q1, q2, q4, rfl⟩) hlen).weak ?_
  rintro r S' ⟨H', TS', zs, us, h1, h2, h3, rfl⟩
  split at h1
  · rename_i hd
    obtain ⟨z, L, ys', g1, g2, g3, g4, g5, _⟩ := resK_sound h2 ct.res 0 h1 h3 hd
    have e := eqR_eq ct.res g1
    subst e
    refine ⟨retA ys', fun l => (L.map (·.1)).getD l 0, L.map (·.2), retA_le g2, ⟨fun l l' hl hl' e => ?_, fun l o hl => ?_⟩, ys', g3, rfl⟩
    · have h1 : l < (L.map (·.1)).length := by simpa using hl
      have h2 : l' < (L.map (·.1)).length := by simpa using hl'
      simp only [List.getD_eq_getElem?_getD, List.getElem?_eq_getElem h1, List.getElem?_eq_getElem h2, Option.getD_some] at e
      exact (List.getElem_inj g5).1 e
    · rw [List.getElem?_map] at hl
      cases hp : L[l]? with
      | none => rw [hp] at hl; cases hl
      | some p =>
        rw [hp] at hl
        simp at hl
        subst hl
        obtain ⟨o0, k1, k2⟩ := g4 p (List.mem_of_getElem? hp)
        refine ⟨o0, ?_, k2⟩
        simp only [List.getD_eq_getElem?_getD, List.getElem?_map, hp, Option.map_some, Option.getD_some]
        exact k1
  · exact h1.elim
theorem con_eq (hΓ : Cons P Γ) {L : List (Nat × Fi)} (hL : Fis P L) {f : Nat} {fi : Fi} {ct : Ct} (hf : FiOk P f fi) {depth : Nat} (hsp : fi.sp = none) (hn : Nat.ble (lenTys ct.args) fi.n = true) (x : Ts ct.args) {T : Prop} (h : T) (e : T = tCon Γ L depth fi ct x) : ACalls P f (encAs ct.args x) [] (resR ct.res (ct.fn x)) :=
  con_of hΓ hL hf hsp hn x (e ▸ h)
end
/-- A list that is handed back and that nobody writes from here on: a value. -/
theorem Con.frozen {P : Program} {f : FuncId} {args : Tys} {t : Ty} {pre : Ts args → Prop} {fn : Ts args → List (T t)} (h : Con P f ⟨args, [.own t], pre, fn⟩) : Con P f ⟨args, [.val (.sl t)], pre, fn⟩ := by
  refine ⟨h.1, fun x hx => ACalls.freeze 1 (ACallsMono (h.2 x hx) fun r S' hr => ?_)⟩
  obtain ⟨ys, h1, rfl⟩ := hr
  refine ⟨[encA (.sl t) (fn x)], ⟨[], rfl, rfl, rfl⟩, ?_⟩
  rcases h1 with ⟨v, ys', S1, rfl, rfl, rfl, rfl⟩ | ⟨h0, ys', rfl, rfl, rfl⟩
  · simp only [retA, deref, hdR, encA, List.getElem?_cons_zero, if_pos, List.drop_zero]
    simp [deref]
  · simp only [retA, deref, encA]
    have h0 : fn x = [] := h0
    rw [h0]
    rfl

/-! ### Functions that write what their first argument points to -/
theorem ACalls.frame1 {P : Program} {f : FuncId} {S : Store} {p v k : Nat} {cs : List AVal} {args args' : List AVal} {R K : AVal → Store → Prop} (hp : S[p]? = some (.row v k cs)) (h : ACalls P f args' [.row v k cs] R)
    (ha : ∀ E fz w vals, RelL E fz w args vals → RelL E fz w args' vals) (hK : ∀ r S', R r S' → ∃ cs', S' = [.row v k cs'] ∧ K r (S.set p (.row v k cs'))) : ACalls P f args S K := by
  refine ⟨fun E fz w vals st hrel => ?_⟩
  have lt : p < S.length := (List.getElem?_eq_some_iff.1 hp).1
  have at0 : ∀ {l : Nat} {x o : Ob}, [o][l]? = some x → l = 0 ∧ x = o := fun {l x o} hl => by
    cases l with
    | zero => simp at hl; exact ⟨rfl, hl.symm⟩
    | succ l => simp at hl
  have st0 : St E fz [.row v k cs] w := ⟨fun l o hl => by obtain ⟨rfl, rfl⟩ := at0 hl; exact st.ok p _ hp, fun l l' b ⟨o, q1, _⟩ ⟨o', q2, _⟩ => by rw [(at0 q1).1, (at0 q2).1], st.fzlt, st.fresh⟩
  have own0 : ∀ b, Own E [.row v k cs] b → OwnAt E S p b := fun b ⟨l, o, q1, q2⟩ => by obtain ⟨rfl, rfl⟩ := at0 q1; exact ⟨_, hp, q2⟩
  refine (h.out E fz w vals st0 (ha _ _ _ _ hrel)).mono fun e w' ⟨r, S', u, E', fz', h1, h2, h3, h4, h5⟩ => ?_
  obtain ⟨cs', rfl, hk⟩ := hK r S' h5
  have ok0 := h3.ok 0 _ rfl
  have other : ∀ {l : Nat} {x : Ob}, l ≠ p → S[l]? = some x → ∀ b, obBlock E x = some b → w'.heap[b]? = w.heap[b]? ∧ ¬ fz' b := fun {l x} hne hl b hb => by
    have hlt := st.own_lt ⟨x, hl, hb⟩
    have no : ¬ Own E [.row v k cs] b := fun ho => hne (st.sep _ _ _ ⟨x, hl, hb⟩ (own0 b ho))
    refine ⟨h2.keep b hlt.1 no, fun hf => ?_⟩
    rcases h2.fznew b hf with q | q | q
    · exact hlt.2 q
    · exact no q
    · omega
  have fk : ∀ b, fz b → w'.heap[b]? = w.heap[b]? := fun b hb => h2.keep b (st.fzlt b hb) fun ho => (st.own_lt (own0 b ho)).2 hb
  have split : ∀ {l b : Nat}, OwnAt E' (S.set p (.row v k cs')) l b → (l = p ∧ OwnAt E' [.row v k cs'] 0 b) ∨ (l ≠ p ∧ OwnAt E S l b) := fun {l b} ⟨o, q1, q2⟩ => by
    by_cases e : l = p
    · subst e
      rw [List.getElem?_set_self lt] at q1
      cases q1
      exact .inl ⟨rfl, _, rfl, q2⟩
    · rw [List.getElem?_set_ne (Ne.symm e)] at q1
      exact .inr ⟨e, o, q1, by rw [← (st.ok l o q1).block h2.env]; exact q2⟩
  have f1 : ∀ b, fz' b → fz b ∨ Own E S b ∨ w.heap.size ≤ b := fun b hb => by
    rcases h2.fznew b hb with q | q | q
    · exact .inl q
    · exact .inr (.inl ⟨p, own0 b q⟩)
    · exact .inr (.inr q)
  have f2 : ∀ b, Own E' (S.set p (.row v k cs')) b → Own E S b ∨ w.heap.size ≤ b := fun b ⟨l, hb⟩ => by
    rcases split hb with ⟨_, q⟩ | ⟨_, q⟩
    · rcases h2.own b ⟨0, q⟩ with g | g
      · exact .inl ⟨p, own0 b g⟩
      · exact .inr g
    · exact .inl ⟨l, q⟩
  have f3 : ∀ (l : Nat) o, (S.set p (.row v k cs'))[l]? = some o → ObOk E' fz' w' o := fun l o hl => by
    by_cases e : l = p
    · subst e
      rw [List.getElem?_set_self lt] at hl
      cases hl
      exact ok0
    · rw [List.getElem?_set_ne (Ne.symm e)] at hl
      exact (st.ok l o hl).mono h2.env h2.frz fk (other e hl)
  have f4 : ∀ l l' b, OwnAt E' (S.set p (.row v k cs')) l b → OwnAt E' (S.set p (.row v k cs')) l' b → l = l' := fun l l' b q1 q2 => by
    have cross : ∀ {l : Nat}, l ≠ p → OwnAt E S l b → OwnAt E' [.row v k cs'] 0 b → False := fun {l} hne g1 g2 => by
      rcases h2.own b ⟨0, g2⟩ with g | g
      · exact hne (st.sep _ _ _ g1 (own0 b g))
      · have := (st.own_lt g1).1; omega
    rcases split q1 with ⟨e1, g1⟩ | ⟨e1, g1⟩ <;> rcases split q2 with ⟨e2, g2⟩ | ⟨e2, g2⟩
    · rw [e1, e2]
    · exact (cross e2 g2 g1).elim
    · exact (cross e1 g1 g2).elim
    · exact st.sep _ _ _ g1 g2
  exact ⟨r, _, u, E', fz', h1, ⟨h2.env, h2.frz, f1, fun b hb hn => h2.keep b hb fun ho => hn ⟨p, own0 b ho⟩, f2, h2.size, h2.os, h2.output, h2.tape⟩, ⟨f3, f4, h3.fzlt, h3.fresh⟩, h4, hk⟩

def ConU (P : Program) (f : FuncId) (c : Cu) : Prop := callable P f = true ∧ allVal c.res = true ∧ ∀ (v : Nat) (r : T c.rt) (x : Ts c.args), c.pre r x →
  ACalls P f (.ptr 0 v 0 :: encAs c.args x) [.row v 0 (encT c.rt r)] fun y S' => S' = [.row v 0 (encT c.rt (c.fn r x).1)] ∧ y = retA (encsR c.res (c.fn r x).2)

theorem cu_sum {P : Program} {f : FuncId} {c : Cu} (hc : ConU P f c) : SpOk P f ⟨cuEv c⟩ := by
  intro xs G TS ps y G' TS' h hps H S AG ys st hG hs
  unfold cuEv at h
  simp only at h
  split at h
  case h_2 => cases h
  rename_i l xs
  split at h
  case h_2 => cases h
  rename_i cs ho
  split at h
  case h_2 => cases h
  rename_i r a hr ha hpu
  cases h
  simp only [SimL] at hs
  obtain ⟨y0, zs, rfl, s1, s2⟩ := hs
  simp only [SimV] at s1
  obtain ⟨hd, p, v, e1, e2, rfl⟩ := s1
  obtain ⟨p', v', xs', q1, q2, q3⟩ := cells_get st ho
  rw [q1] at e1; cases e1
  cases e2
  obtain ⟨us, rfl, hu⟩ := decC_sim c.rt hr q3
  simp only [SimL] at hu
  subst hu
  rw [List.append_nil] at q2 q3
  have hlen : cs.length = (cellsT c.rt (c.fn r a).1).length := by
    have h1 := q3.length
    have h2 := (cellsT_sim (H := H) c.rt (c.fn r a).1).length
    rw [encT_length] at h1 h2
    omega
  refine ACalls.frame1 q2 (hc.2.2 v r a hps.cons.1) (fun E fz w vals hr => ?_) fun r0 S' ⟨e1, e2⟩ => ⟨_, e1, H, ?_, hG, ?_⟩
  · simp only [RelL] at hr ⊢
    obtain ⟨v0, us, rfl, r1, r2⟩ := hr
    exact ⟨v0, us, rfl, by simpa only [Rel] using r1, decAs_rel st (fun _ h => h) c.args ha s2 (.inl hpu) r2⟩
  · rw [setOb_eq]
    refine st.put (obj_lt ho) q1 rfl ⟨p, v, _, by rw [q1, hlen], ?_, cellsT_sim _ _⟩
    rw [List.getElem?_set_self (List.getElem?_eq_some_iff.1 q2).1]
  · rw [e2]
    exact ret_sim (val_sim _ _ _ hc.2.1)

theorem cu_fok {P : Program} {f : FuncId} {c : Cu} (hc : ConU P f c) : FiOk P f (cuFi c) :=
  ⟨fun _ => hc.1, fun h => (by cases h), fun s hs => by cases hs; exact cu_sum hc⟩

theorem ownN_val : ∀ {rs : List RTy} {xs : List TV}, allVal rs = true → ownN rs xs = []
  | [], xs, _ => by cases xs <;> simp [ownN]
  | .val t :: rs, [], _ => by simp [ownN]
  | .val t :: rs, x :: xs, h => by simp only [ownN]; exact ownN_val (by simpa [allVal] using h)
  | .own t :: rs, xs, h => by simp [allVal] at h

theorem conU_eq {P : Program} {Γ : List (Nat × Ct)} (hΓ : Cons P Γ) {L : List (Nat × Fi)} (hL : Fis P L) {f : Nat} {fi : Fi} {c : Cu} (hf : FiOk P f fi) {depth : Nat} (hsp : fi.sp = none) (hn : Nat.ble (lenTys c.args + 1) fi.n = true) (hv : allVal c.res = true)
    (v : Nat) (r : T c.rt) (x : Ts c.args) {T : Prop} (h : T) (e : T = tConU Γ L depth fi c r x) :
    ACalls P f (.ptr 0 v 0 :: encAs c.args x) [.row v 0 (encT c.rt r)] fun y S' => S' = [.row v 0 (encT c.rt (c.fn r x).1)] ∧ y = retA (encsR c.res (c.fn r x).2) := by
  have h : tConU Γ L depth fi c r x := e ▸ h
  have hlen : (AVal.ptr 0 v 0 :: encAs c.args x).length ≤ fi.n := by
    have := Nat.le_of_ble_eq_true hn
    simp only [List.length_cons, encAs_length]; omega
  obtain ⟨H0, k1, k2, k3⟩ := (St3.nil (S := [])).pushCells 0 (cellsT_sim c.rt r) v
  simp only [List.nil_append, List.length_nil] at k2 k3
  have hp : SimV H0 (.ptr 0 0) (.ptr 0 v 0) := by simp only [SimV]; exact ⟨_, _, _, k3, rfl, rfl⟩
  have hp1 : SimL H0 [.ptr 0 0] [.ptr 0 v 0] := by simp only [SimL]; exact ⟨_, _, rfl, hp, rfl⟩
  refine (hf.out hsp (R := fun y S' => ∃ H' G' TS' zs us, (match keptU G', objAt TS' 0 with
    | true, some (.cells 0 cs) => (match decC c.rt cs with
      | some (r', []) => resK TS' c.res zs fun y => r' = (c.fn r x).1 ∧ eqR c.res y (c.fn r x).2
      | _ => False)
    | _, _ => False) ∧ St3 H' TS' S' ∧ SimG H' G' [argF 0 [.ptr 0 v 0]] ∧ SimL H' zs us ∧ y = retA us)
    (tFunL_sound hΓ (callN_ok hΓ hL depth) h k2 (.cons (arg_sim 0 hp1).1 .nil) (by simp only [SimL]; exact ⟨_, _, rfl, hp, tvAs_sim c.args x⟩) fun zs us S' H' G' TS' q1 q2 q3 q4 => ⟨H', G', TS', zs, us, q1, q2, q3, q4, rfl⟩) hlen).weak ?_
  rintro y S' ⟨H', G', TS', zs, us, h1, st, hG, hs, rfl⟩
  split at h1
  case h_2 => exact h1.elim
  rename_i cs hk ho
  split at h1
  case h_2 => exact h1.elim
  rename_i r' hr
  have hloc : ∃ hd, H' 0 = some hd ∧ hd.loc = some (0, v) := by
    unfold keptU at hk
    split at hk
    case h_2 => cases hk
    rename_i F
    split at hk
    case h_2 => cases hk
    rename_i P0 hl
    cases hG with
    | cons hF _ =>
      have := (hF _ _ _ _ hl).on holds_nil
      simp only [SimV, argF, Frame.get, Nat.beq] at this
      obtain ⟨hd, p, v', g1, g2, g3⟩ := this
      cases g3
      exact ⟨hd, g1, g2⟩
  obtain ⟨hd, g1, g2⟩ := hloc
  obtain ⟨p', v', xs', q1, q2, q3⟩ := cells_get st ho
  rw [q1] at g1; cases g1
  cases g2
  obtain ⟨ws, rfl, hu⟩ := decC_sim c.rt hr q3
  simp only [SimL] at hu
  subst hu
  rw [List.append_nil] at q2
  obtain ⟨z, L', ys', g1, g2, g3, g4, g5, _⟩ := resK_sound st c.res 0 h1 hs (by rw [ownN_val hv]; rfl)
  obtain ⟨e1, e2⟩ := g1
  have e2 := eqR_eq c.res e2
  subst e1
  subst e2
  obtain ⟨e3, e4⟩ := val_det c.res _ _ hv g3
  subst e3
  refine ⟨retA _, fun _ => 0, [.row v 0 (encT c.rt (c.fn r x).1)], retA_le g2, ⟨fun l l' hl hl' _ => ?_, fun l o hl => ?_⟩, rfl, rfl⟩
  · simp at hl hl'; omega
  · cases l with
    | zero => simp at hl; subst hl; exact ⟨_, q2, .refl _⟩
    | succ l => simp at hl

/-! ### Functions that write what some of their arguments point to -/
def setMany : Store → List Nat → List Ob → Store
  | S, p :: ps, o :: os => setMany (S.set p o) ps os
  | S, [], _ => S
  | S, _ :: _, [] => S
theorem setMany_length : ∀ (ps : List Nat) (os : List Ob) (S : Store), (setMany S ps os).length = S.length
  | [], os, S => by simp [setMany]
  | p :: ps, [], S => by simp [setMany]
  | p :: ps, o :: os, S => by simp [setMany, setMany_length ps os]
theorem setMany_ne {q : Nat} : ∀ (ps : List Nat) (os : List Ob) (S : Store), q ∉ ps → (setMany S ps os)[q]? = S[q]?
  | [], os, S, _ => by simp [setMany]
  | p :: ps, [], S, _ => by simp [setMany]
  | p :: ps, o :: os, S, h => by
    simp only [List.mem_cons, not_or] at h
    rw [setMany, setMany_ne ps os _ h.2, List.getElem?_set_ne (Ne.symm h.1)]
theorem setMany_at {q : Nat} : ∀ (ps : List Nat) (os : List Ob) (S : Store) (i : Nat), ps.Nodup → ps.length = os.length → (∀ p ∈ ps, p < S.length) → ps[i]? = some q → (setMany S ps os)[q]? = os[i]?
  | [], os, S, i, _, _, _, h => by simp at h
  | p :: ps, [], S, i, _, hl, _, h => by simp at hl
  | p :: ps, o :: os, S, i, hn, hl, hp, h => by
    rw [List.nodup_cons] at hn
    rw [setMany]
    cases i with
    | zero =>
      simp at h
      subst h
      rw [setMany_ne ps os _ hn.1, List.getElem?_set_self (hp _ (by simp))]
      rfl
    | succ i =>
      simp only [List.getElem?_cons_succ] at h ⊢
      exact setMany_at ps os _ i hn.2 (by simpa using hl) (fun q hq => by rw [List.length_set]; exact hp q (by simp [hq])) h

theorem ACalls.frameN {P : Program} {f : FuncId} {S S0 : Store} {ps : List Nat} {args args' : List AVal} {R K : AVal → Store → Prop} (hlen : ps.length = S0.length) (hnd : ps.Nodup) (hp : ∀ (i : Nat) o q, S0[i]? = some o → ps[i]? = some q → S[q]? = some o) (h : ACalls P f args' S0 R)
    (ha : ∀ E fz w vals, RelL E fz w args vals → RelL E fz w args' vals) (hK : ∀ r S', R r S' → S'.length = S0.length ∧ K r (setMany S ps S')) : ACalls P f args S K := by
  refine ⟨fun E fz w vals st hrel => ?_⟩
  have get : ∀ {i : Nat} {o : Ob}, S0[i]? = some o → ∃ q, ps[i]? = some q ∧ S[q]? = some o := fun {i o} hi => by
    have hlt : i < ps.length := by rw [hlen]; exact (List.getElem?_eq_some_iff.1 hi).1
    exact ⟨ps[i], List.getElem?_eq_getElem hlt, hp i o _ hi (List.getElem?_eq_getElem hlt)⟩
  have inj : ∀ {i j q : Nat}, ps[i]? = some q → ps[j]? = some q → i = j := fun {i j q} h1 h2 => by
    obtain ⟨a1, a2⟩ := List.getElem?_eq_some_iff.1 h1
    obtain ⟨b1, b2⟩ := List.getElem?_eq_some_iff.1 h2
    exact (List.getElem_inj hnd).1 (by rw [a2, b2])
  have st0 : St E fz S0 w := ⟨fun l o hl => by obtain ⟨q, _, g⟩ := get hl; exact st.ok q o g, fun l l' b ⟨o, q1, q2⟩ ⟨o', q1', q2'⟩ => by
    obtain ⟨q, g1, g2⟩ := get q1
    obtain ⟨q', g1', g2'⟩ := get q1'
    have := st.sep q q' b ⟨o, g2, q2⟩ ⟨o', g2', q2'⟩
    subst this
    exact inj g1 g1', st.fzlt, st.fresh⟩
  have own0 : ∀ b i, OwnAt E S0 i b → ∃ q, ps[i]? = some q ∧ OwnAt E S q b := fun b i ⟨o, q1, q2⟩ => by
    obtain ⟨q, g1, g2⟩ := get q1
    exact ⟨q, g1, o, g2, q2⟩
  have ownS : ∀ b, Own E S0 b → Own E S b := fun b ⟨i, h⟩ => by obtain ⟨q, _, g⟩ := own0 b i h; exact ⟨q, g⟩
  have plt : ∀ q ∈ ps, q < S.length := fun q hq => by
    obtain ⟨i, hi, e⟩ := List.getElem_of_mem hq
    have h1 : S0[i]? = some (S0[i]'(by omega)) := List.getElem?_eq_getElem _
    have := hp i _ q h1 (by rw [List.getElem?_eq_getElem hi, e])
    exact (List.getElem?_eq_some_iff.1 this).1
  refine (h.out E fz w vals st0 (ha _ _ _ _ hrel)).mono fun e w' ⟨r, S', u, E', fz', h1, h2, h3, h4, h5⟩ => ?_
  obtain ⟨hl', hk⟩ := hK r S' h5
  have other : ∀ {l : Nat} {x : Ob}, l ∉ ps → S[l]? = some x → ∀ b, obBlock E x = some b → w'.heap[b]? = w.heap[b]? ∧ ¬ fz' b := fun {l x} hne hl b hb => by
    have hlt := st.own_lt ⟨x, hl, hb⟩
    have no : ¬ Own E S0 b := fun ⟨i, ho⟩ => by
      obtain ⟨q, g1, g2⟩ := own0 b i ho
      have := st.sep _ _ _ ⟨x, hl, hb⟩ g2
      subst this
      exact hne (List.mem_of_getElem? g1)
    refine ⟨h2.keep b hlt.1 no, fun hf => ?_⟩
    rcases h2.fznew b hf with q | q | q
    · exact hlt.2 q
    · exact no q
    · omega
  have fk : ∀ b, fz b → w'.heap[b]? = w.heap[b]? := fun b hb => h2.keep b (st.fzlt b hb) fun ho => by
    obtain ⟨l, g⟩ := ownS b ho
    exact (st.own_lt g).2 hb
  have back : ∀ {l : Nat} {o : Ob}, (setMany S ps S')[l]? = some o → (∃ i, ps[i]? = some l ∧ S'[i]? = some o) ∨ (l ∉ ps ∧ S[l]? = some o) := fun {l o} hl => by
    by_cases hm : l ∈ ps
    · obtain ⟨i, hi, e⟩ := List.getElem_of_mem hm
      have hi' : ps[i]? = some l := by rw [List.getElem?_eq_getElem hi, e]
      rw [setMany_at ps S' S i hnd (by rw [hlen, hl']) plt hi'] at hl
      exact .inl ⟨i, hi', hl⟩
    · rw [setMany_ne ps S' S hm] at hl
      exact .inr ⟨hm, hl⟩
  have split : ∀ {l b : Nat}, OwnAt E' (setMany S ps S') l b → (∃ i, ps[i]? = some l ∧ OwnAt E' S' i b) ∨ (l ∉ ps ∧ OwnAt E S l b) := fun {l b} ⟨o, q1, q2⟩ => by
    rcases back q1 with ⟨i, g1, g2⟩ | ⟨g1, g2⟩
    · exact .inl ⟨i, g1, o, g2, q2⟩
    · exact .inr ⟨g1, o, g2, by rw [← (st.ok l o g2).block h2.env]; exact q2⟩
  have f1 : ∀ b, fz' b → fz b ∨ Own E S b ∨ w.heap.size ≤ b := fun b hb => by
    rcases h2.fznew b hb with q | q | q
    · exact .inl q
    · exact .inr (.inl (ownS b q))
    · exact .inr (.inr q)
  have f2 : ∀ b, Own E' (setMany S ps S') b → Own E S b ∨ w.heap.size ≤ b := fun b ⟨l, hb⟩ => by
    rcases split hb with ⟨i, _, q⟩ | ⟨_, q⟩
    · rcases h2.own b ⟨i, q⟩ with g | g
      · exact .inl (ownS b g)
      · exact .inr g
    · exact .inl ⟨l, q⟩
  have f3 : ∀ (l : Nat) o, (setMany S ps S')[l]? = some o → ObOk E' fz' w' o := fun l o hl => by
    rcases back hl with ⟨i, _, g⟩ | ⟨g1, g2⟩
    · exact h3.ok i o g
    · exact (st.ok l o g2).mono h2.env h2.frz fk (other g1 g2)
  have f4 : ∀ l l' b, OwnAt E' (setMany S ps S') l b → OwnAt E' (setMany S ps S') l' b → l = l' := fun l l' b q1 q2 => by
    have cross : ∀ {l i : Nat}, l ∉ ps → OwnAt E S l b → OwnAt E' S' i b → False := fun {l i} hne g1 g2 => by
      rcases h2.own b ⟨i, g2⟩ with ⟨j, g⟩ | g
      · obtain ⟨q, k1, k2⟩ := own0 b j g
        have := st.sep _ _ _ g1 k2
        subst this
        exact hne (List.mem_of_getElem? k1)
      · have := (st.own_lt g1).1; omega
    rcases split q1 with ⟨i, e1, g1⟩ | ⟨e1, g1⟩ <;> rcases split q2 with ⟨j, e2, g2⟩ | ⟨e2, g2⟩
    · have := h3.sep _ _ _ g1 g2
      subst this
      rw [e1] at e2; cases e2; rfl
    · exact (cross e2 g2 g1).elim
    · exact (cross e1 g1 g2).elim
    · exact st.sep _ _ _ g1 g2
  exact ⟨r, _, u, E', fz', h1, ⟨h2.env, h2.frz, f1, fun b hb hn => h2.keep b hb fun ho => hn (ownS b ho), f2, h2.size, h2.os, h2.output, h2.tape⟩, ⟨f3, f4, h3.fzlt, h3.fresh⟩, h4, hk⟩

def ref1A (t : Ty) (r : Bool) (a : T t) : List (List AVal) := match r with | true => [encT t a] | false => []
def refsA : (ts : Tys) → List Bool → Ts ts → List (List AVal)
  | .nil, _, _ => []
  | .cons t .nil, rs, a => ref1A t (hdB rs) a
  | .cons t (.cons u ts), rs, (a, b) => ref1A t (hdB rs) a ++ refsA (.cons u ts) (tlB rs) b
def enc1M (t : Ty) (r : Bool) (a : T t) (vs : Nat → Nat) (k : Nat) : AVal := match r with | true => .ptr k (vs k) 0 | false => encA t a
def encM : (ts : Tys) → List Bool → Ts ts → (Nat → Nat) → Nat → List AVal
  | .nil, _, _, _, _ => []
  | .cons t .nil, rs, a, vs, k => [enc1M t (hdB rs) a vs k]
  | .cons t (.cons u ts), rs, (a, b), vs, k => enc1M t (hdB rs) a vs k :: encM (.cons u ts) (tlB rs) b vs (nx (hdB rs) k)
def stM : List (List AVal) → (Nat → Nat) → Nat → Store
  | [], _, _ => []
  | cs :: L, vs, k => .row (vs k) 0 cs :: stM L vs (k + 1)
def ConM (P : Program) (f : FuncId) (c : Cm) : Prop := callable P f = true ∧ allVal c.res = true ∧ ∀ (vs : Nat → Nat) (x : Ts c.args), c.pre x →
  ACalls P f (encM c.args c.ref x vs 0) (stM (refsA c.args c.ref x) vs 0) fun y S' => S' = stM (refsA c.args c.ref (c.fn x).2) vs 0 ∧ y = retA (encsR c.res (c.fn x).1)

/-- Objects that are pointed to, their places, cells, sizes. -/
inductive Par (H : HF) (S : Store) : List Nat → List (Nat × Nat) → List (List AVal) → Prop
  | nil : Par H S [] [] []
  | cons {l p v : Nat} {cs : List AVal} {ls : List Nat} {pvs : List (Nat × Nat)} {L : List (List AVal)} (h : H l = some ⟨some (p, v), 0, cs.length, []⟩) (hS : S[p]? = some (.row v 0 cs)) (hr : Par H S ls pvs L) : Par H S (l :: ls) ((p, v) :: pvs) (cs :: L)
theorem Par.append {H : HF} {S : Store} {ls ls' : List Nat} {pvs pvs' : List (Nat × Nat)} {L L' : List (List AVal)} (h : Par H S ls pvs L) (h' : Par H S ls' pvs' L') : Par H S (ls ++ ls') (pvs ++ pvs') (L ++ L') := by
  induction h with
  | nil => exact h'
  | cons h1 h2 _ ih => exact .cons h1 h2 ih
theorem Par.len {H : HF} {S : Store} {ls : List Nat} {pvs : List (Nat × Nat)} {L : List (List AVal)} (h : Par H S ls pvs L) : pvs.length = L.length ∧ ls.length = L.length := by
  induction h with
  | nil => exact ⟨rfl, rfl⟩
  | cons _ _ _ ih => exact ⟨by simp [ih.1], by simp [ih.2]⟩

theorem dec1M_sim {H : HF} {TS : List TOb} {S : Store} (st : St3 H TS S) {t : Ty} {r : Bool} {x : TV} {a : T t} {ls : List Nat} {y : AVal} (h : dec1M TS t r x = some (a, ls)) (hs : SimV H x y) :
    ∃ pvs, Par H S ls pvs (ref1A t r a) ∧ ∀ (vs : Nat → Nat) (k : Nat), (∀ (i : Nat) pv, pvs[i]? = some pv → vs (k + i) = pv.2) → nx r k = k + pvs.length ∧ ∀ E fz w u, Rel E fz w y u → Rel E fz w (enc1M t r a vs k) u := by
  cases r with
  | false =>
    simp only [dec1M] at h
    split at h
    case h_2 => cases h
    rename_i b hp hd
    cases h
    refine ⟨[], .nil, fun vs k _ => ⟨rfl, fun E fz w u hr => ?_⟩⟩
    exact decA_rel st hd hs (fun _ h => h) (.inl hp) hr
  | true =>
    simp only [dec1M] at h
    split at h
    case h_2 => cases h
    rename_i l
    split at h
    case h_2 => cases h
    rename_i cs ho
    split at h
    case h_2 => cases h
    rename_i b hd
    cases h
    simp only [SimV] at hs
    obtain ⟨hd', p, v, e1, e2, rfl⟩ := hs
    obtain ⟨p', v', xs', q1, q2, q3⟩ := cells_get st ho
    rw [q1] at e1; cases e1
    cases e2
    obtain ⟨us, rfl, hu⟩ := decC_sim t hd q3
    simp only [SimL] at hu
    subst hu
    rw [List.append_nil] at q2 q3
    refine ⟨[(p, v)], .cons (by rw [q1, q3.length]) q2 .nil, fun vs k hv => ⟨rfl, fun E fz w u hr => ?_⟩⟩
    have := hv 0 (p, v) rfl
    simp only [Nat.add_zero] at this
    simpa only [enc1M, this, Rel] using hr

theorem decM_one {TS : List TOb} {t : Ty} {rs : List Bool} {xs : List TV} {a : T t} {ls : List Nat} (h : decM TS (.cons t .nil) rs xs = some ((show Ts (.cons t .nil) from a), ls)) : ∃ x, xs = [x] ∧ dec1M TS t (hdB rs) x = some (a, ls) := by
  cases xs with
  | nil =>
    have h : (none : Option (Ts (.cons t .nil) × List Nat)) = some ((show Ts (.cons t .nil) from a), ls) := h
    cases h
  | cons x xs =>
    cases xs with
    | nil => exact ⟨x, rfl, h⟩
    | cons y ys =>
      have h : (none : Option (Ts (.cons t .nil) × List Nat)) = some ((show Ts (.cons t .nil) from a), ls) := h
      cases h
theorem decM_sim1 {H : HF} {TS : List TOb} {S : Store} (st : St3 H TS S) {t : Ty} {rs : List Bool} {xs : List TV} {a : T t} {ls : List Nat} {ys : List AVal} (h : decM TS (.cons t .nil) rs xs = some ((show Ts (.cons t .nil) from a), ls)) (hs : SimL H xs ys) :
    ∃ pvs, Par H S ls pvs (refsA (.cons t .nil) rs a) ∧ ∀ (vs : Nat → Nat) (k : Nat), (∀ (i : Nat) pv, pvs[i]? = some pv → vs (k + i) = pv.2) → ∀ E fz w us, RelL E fz w ys us → RelL E fz w (encM (.cons t .nil) rs a vs k) us := by
  obtain ⟨x, e, hd⟩ := decM_one h
  subst e
  simp only [SimL] at hs
  obtain ⟨y, zs, e1, s1, e2⟩ := hs
  subst e2
  subst e1
  obtain ⟨pvs, g1, g2⟩ := dec1M_sim st hd s1
  refine ⟨pvs, g1, fun vs k hv E fz w us hr => ?_⟩
  have hr' := hr
  simp only [RelL] at hr'
  obtain ⟨v, us', e3, r1, r2⟩ := hr'
  show RelL E fz w [enc1M t (hdB rs) a vs k] us
  simp only [RelL]
  exact ⟨v, us', e3, (g2 vs k hv).2 _ _ _ _ r1, r2⟩

theorem decM_two {TS : List TOb} {t u : Ty} {ts : Tys} {rs : List Bool} {xs : List TV} {a : Ts (.cons t (.cons u ts))} {ls : List Nat} (h : decM TS (.cons t (.cons u ts)) rs xs = some (a, ls)) :
    ∃ (x : TV) (xs' : List TV) (a1 : T t) (l1 : List Nat) (b1 : Ts (.cons u ts)) (l2 : List Nat), xs = x :: xs' ∧ dec1M TS t (hdB rs) x = some (a1, l1) ∧ decM TS (.cons u ts) (tlB rs) xs' = some (b1, l2) ∧ a = (a1, b1) ∧ ls = l1 ++ l2 := by
  cases xs with
  | nil =>
    have h : (none : Option (Ts (.cons t (.cons u ts)) × List Nat)) = some (a, ls) := h
    cases h
  | cons x xs =>
    have h : (match dec1M TS t (hdB rs) x, decM TS (.cons u ts) (tlB rs) xs with
      | some (a, l), some (b, ls) => some (((a, b) : Ts (.cons t (.cons u ts))), l ++ ls)
      | _, _ => none) = some (a, ls) := h
    generalize h1 : dec1M TS t (hdB rs) x = X at h
    generalize h2 : decM TS (.cons u ts) (tlB rs) xs = Y at h
    cases X with
    | none => cases h
    | some p =>
      cases Y with
      | none => cases h
      | some q =>
        obtain ⟨a1, l1⟩ := p
        obtain ⟨b1, l2⟩ := q
        have h := Option.some.inj h
        exact ⟨x, xs, a1, l1, b1, l2, rfl, h1, h2, (congrArg Prod.fst h).symm, (congrArg Prod.snd h).symm⟩
theorem decM_sim {H : HF} {TS : List TOb} {S : Store} (st : St3 H TS S) : ∀ (ts : Tys) (rs : List Bool) {xs : List TV} {a : Ts ts} {ls : List Nat} {ys : List AVal}, decM TS ts rs xs = some (a, ls) → SimL H xs ys →
    ∃ pvs, Par H S ls pvs (refsA ts rs a) ∧ ∀ (vs : Nat → Nat) (k : Nat), (∀ (i : Nat) pv, pvs[i]? = some pv → vs (k + i) = pv.2) → ∀ E fz w us, RelL E fz w ys us → RelL E fz w (encM ts rs a vs k) us
  | .nil, rs, xs, a, ls, ys, h, hs => by
    cases xs with
    | cons x xs =>
      have h : (none : Option (Ts .nil × List Nat)) = some (a, ls) := h
      cases h
    | nil =>
      have h : (some ((show Ts .nil from ()), ([] : List Nat)) : Option (Ts .nil × List Nat)) = some (a, ls) := h
      have e : ([] : List Nat) = ls := congrArg Prod.snd (Option.some.inj h)
      simp only [SimL] at hs
      subst hs
      subst e
      exact ⟨[], .nil, fun vs k _ E fz w us hr => hr⟩
  | .cons t .nil, rs, xs, a, ls, ys, h, hs => decM_sim1 st h hs
  | .cons t (.cons u ts), rs, xs, a, ls, ys, h, hs => by
    obtain ⟨x, xs', a1, l1, b1, l2, e0, h1, h2, e1, e2⟩ := decM_two h
    subst e0; subst e1; subst e2
    simp only [SimL] at hs
    obtain ⟨y, zs, rfl, s1, s2⟩ := hs
    obtain ⟨pvs, g1, g2⟩ := dec1M_sim st h1 s1
    obtain ⟨pvs', g3, g4⟩ := decM_sim st (.cons u ts) (tlB rs) h2 s2
    refine ⟨pvs ++ pvs', g1.append g3, fun vs k hv E fz w us hr => ?_⟩
    simp only [RelL, encM] at hr ⊢
    obtain ⟨v, us', rfl, r1, r2⟩ := hr
    obtain ⟨n1, n2⟩ := g2 vs k fun i pv hi => hv i pv (by rw [List.getElem?_append_left (List.getElem?_eq_some_iff.1 hi).1]; exact hi)
    refine ⟨v, us', rfl, n2 _ _ _ _ r1, ?_⟩
    rw [n1]
    exact g4 vs _ (fun i pv hi => by
      have := hv (pvs.length + i) pv (by rw [List.getElem?_append_right (by omega), Nat.add_sub_cancel_left]; exact hi)
      rwa [← Nat.add_assoc] at this) _ _ _ _ r2

theorem Par.mem {H : HF} {S : Store} {ls : List Nat} {pvs : List (Nat × Nat)} {L : List (List AVal)} (h : Par H S ls pvs L) : ∀ {p : Nat}, p ∈ pvs.map (·.1) → ∃ l ∈ ls, ∃ v n, H l = some ⟨some (p, v), 0, n, []⟩ := by
  induction h with
  | nil => intro p hp; simp at hp
  | cons h1 _ _ ih =>
    intro p hp
    simp only [List.map_cons, List.mem_cons] at hp
    rcases hp with rfl | hp
    · exact ⟨_, by simp, _, _, h1⟩
    · obtain ⟨l, hl, g⟩ := ih hp
      exact ⟨l, by simp [hl], g⟩
theorem Par.nodup {H : HF} {TS : List TOb} {S : Store} (st : St3 H TS S) {ls : List Nat} {pvs : List (Nat × Nat)} {L : List (List AVal)} (h : Par H S ls pvs L) : ls.Nodup → (pvs.map (·.1)).Nodup := by
  induction h with
  | nil => intro _; simp
  | cons h1 _ hr ih =>
    intro hn
    rw [List.nodup_cons] at hn
    simp only [List.map_cons, List.nodup_cons]
    refine ⟨fun hm => ?_, ih hn.2⟩
    obtain ⟨l', hl', v', n', g⟩ := hr.mem hm
    have := st.inj _ _ _ _ _ _ _ h1 g rfl rfl
    subst this
    exact hn.1 hl'
theorem Par.at {H : HF} {S : Store} {ls : List Nat} {pvs : List (Nat × Nat)} {L : List (List AVal)} (h : Par H S ls pvs L) : ∀ (vs : Nat → Nat) (k : Nat), (∀ (i : Nat) pv, pvs[i]? = some pv → vs (k + i) = pv.2) → ∀ (i : Nat) o q, (stM L vs k)[i]? = some o → (pvs.map (·.1))[i]? = some q → S[q]? = some o := by
  induction h with
  | nil => intro vs k _ i o q h; simp [stM] at h
  | cons h1 h2 hr ih =>
    intro vs k hv i o q g1 g2
    cases i with
    | zero =>
      simp [stM] at g1 g2
      have := hv 0 _ rfl
      simp only [Nat.add_zero] at this
      subst g1; subst g2
      rw [this]; exact h2
    | succ i =>
      simp only [stM, List.map_cons, List.getElem?_cons_succ] at g1 g2
      exact ih vs (k + 1) (fun j pv hj => by have := hv (j + 1) pv (by simpa using hj); rwa [show k + 1 + j = k + (j + 1) by omega]) i o q g1 g2
theorem stM_length : ∀ (L : List (List AVal)) (vs : Nat → Nat) (k : Nat), (stM L vs k).length = L.length
  | [], _, _ => rfl
  | cs :: L, vs, k => by simp [stM, stM_length L]

/-- New cells for those. -/
inductive Par2 (H : HF) : List (List TV) → List (List AVal) → List (List AVal) → Prop
  | nil : Par2 H [] [] []
  | cons {cs : List TV} {xs ys : List AVal} {L : List (List TV)} {M N : List (List AVal)} (h : SimL H cs xs) (hl : xs.length = ys.length) (hr : Par2 H L M N) : Par2 H (cs :: L) (xs :: M) (ys :: N)
theorem Par2.append {H : HF} {L L' : List (List TV)} {M M' N N' : List (List AVal)} (h : Par2 H L M N) (h' : Par2 H L' M' N') : Par2 H (L ++ L') (M ++ M') (N ++ N') := by
  induction h with
  | nil => exact h'
  | cons h1 h2 _ ih => exact .cons h1 h2 ih
theorem ref1_par {H : HF} (t : Ty) (r : Bool) (a b : T t) : Par2 H (ref1T t r a) (ref1A t r a) (ref1A t r b) := by
  cases r
  · exact .nil
  · exact .cons (cellsT_sim t a) (by rw [encT_length, encT_length]) .nil
theorem refs_par {H : HF} : ∀ (ts : Tys) (rs : List Bool) (a b : Ts ts), Par2 H (refsT ts rs a) (refsA ts rs a) (refsA ts rs b)
  | .nil, _, _, _ => .nil
  | .cons t .nil, rs, a, b => ref1_par t (hdB rs) a b
  | .cons t (.cons u ts), rs, (a, a'), (b, b') => (ref1_par t (hdB rs) a b).append (refs_par (.cons u ts) (tlB rs) a' b')
theorem par_put {H : HF} {S0 : Store} {ls : List Nat} {pvs : List (Nat × Nat)} {N : List (List AVal)} (hP : Par H S0 ls pvs N) : ∀ {L : List (List TV)} {M : List (List AVal)} {TS : List TOb} {S : Store} (vs : Nat → Nat) (k : Nat), (∀ (i : Nat) pv, pvs[i]? = some pv → vs (k + i) = pv.2) → Par2 H L M N → S.length = S0.length → St3 H TS S →
    St3 H (putL TS ls L) (setMany S (pvs.map (·.1)) (stM M vs k)) := by
  induction hP with
  | nil =>
    intro L M TS S vs k _ h2 _ st
    cases h2
    simpa [putL, setMany, stM] using st
  | cons h1 hS hr ih =>
    rename_i l p v cs ls pvs N
    intro L M TS S vs k hv h2 hlen st
    cases h2 with
    | cons g1 g2 g3 =>
      rename_i ds xs L M
      have hv0 := hv 0 _ rfl
      simp only [Nat.add_zero] at hv0
      simp only [putL, List.map_cons, stM, setMany, setOb_eq]
      have hlt : l < TS.length := by
        rcases Nat.lt_or_ge l TS.length with q | q
        · exact q
        · rw [st.out l q] at h1; cases h1
      have hp : p < S.length := by rw [hlen]; exact (List.getElem?_eq_some_iff.1 hS).1
      refine ih vs (k + 1) (fun i pv hi => by have := hv (i + 1) pv (by simpa using hi); rwa [show k + 1 + i = k + (i + 1) by omega]) g3 (by simpa using hlen) ?_
      rw [hv0]
      refine st.put hlt h1 rfl ⟨p, v, xs, ?_, List.getElem?_set_self hp, g1⟩
      rw [h1, ← g1.length, g2]

theorem distinct_nodup : ∀ {l : List Nat}, distinct l = true → l.Nodup
  | [], _ => .nil
  | a :: l, h => by
    simp only [distinct] at h
    split at h
    · cases h
    · rename_i hb
      exact List.nodup_cons.2 ⟨hasN_mem hb, distinct_nodup h⟩

theorem cm_sum {P : Program} {f : FuncId} {c : Cm} (hc : ConM P f c) : SpOk P f ⟨cmEv c⟩ := by
  intro xs G TS ps y G' TS' h hps H S AG ys st hG hs
  unfold cmEv at h
  simp only at h
  split at h
  case h_2 => cases h
  rename_i a ls hd
  split at h
  case h_2 => cases h
  rename_i hdis
  cases h
  obtain ⟨pvs, g1, g2⟩ := decM_sim st c.args c.ref hd hs
  have hvs : ∃ vs : Nat → Nat, ∀ (i : Nat) pv, pvs[i]? = some pv → vs (0 + i) = pv.2 := ⟨fun j : Nat => ((pvs[j]?).getD (0, 0)).2, fun i pv hi => by simp [hi]⟩
  obtain ⟨vs, hvs⟩ := hvs
  refine ACalls.frameN (ps := pvs.map (·.1)) (by rw [List.length_map, stM_length, g1.len.1]) (g1.nodup st (distinct_nodup hdis)) (g1.at vs 0 hvs) (hc.2.2 vs a hps.cons.1) (g2 vs 0 hvs) fun r S' ⟨e1, e2⟩ => ?_
  subst e1
  have h2 := refs_par (H := H) c.args c.ref (c.fn a).2 a
  refine ⟨?_, H, par_put g1 vs 0 hvs h2 rfl st, hG, ?_⟩
  · rw [stM_length, stM_length]
    have : ∀ {L : List (List TV)} {M N : List (List AVal)}, Par2 H L M N → M.length = N.length := fun h => by
      induction h with
      | nil => rfl
      | cons _ _ _ ih => simp [ih]
    exact this h2
  · rw [e2]
    exact ret_sim (val_sim _ _ _ hc.2.1)
theorem cm_fok {P : Program} {f : FuncId} {c : Cm} (hc : ConM P f c) : FiOk P f (cmFi c) :=
  ⟨fun _ => hc.1, fun h => (by cases h), fun s hs => by cases hs; exact cm_sum hc⟩

/-- Cells, whatever they lead to. -/
inductive Par0 : List (List TV) → List (List AVal) → Prop
  | nil : Par0 [] []
  | cons {cs : List TV} {xs : List AVal} {L : List (List TV)} {M : List (List AVal)} (h : ∀ H, SimL H cs xs) (hr : Par0 L M) : Par0 (cs :: L) (xs :: M)
theorem Par0.append {L L' : List (List TV)} {M M' : List (List AVal)} (h : Par0 L M) (h' : Par0 L' M') : Par0 (L ++ L') (M ++ M') := by
  induction h with
  | nil => exact h'
  | cons h1 _ ih => exact .cons h1 ih
theorem ref1_par0 (t : Ty) (r : Bool) (a : T t) : Par0 (ref1T t r a) (ref1A t r a) := by
  cases r
  · exact .nil
  · exact .cons (fun H => cellsT_sim t a) .nil
theorem refs_par0 : ∀ (ts : Tys) (rs : List Bool) (a : Ts ts), Par0 (refsT ts rs a) (refsA ts rs a)
  | .nil, _, _ => .nil
  | .cons t .nil, rs, a => ref1_par0 t (hdB rs) a
  | .cons t (.cons u ts), rs, (a, a') => (ref1_par0 t (hdB rs) a).append (refs_par0 (.cons u ts) (tlB rs) a')
theorem Par0.len {L : List (List TV)} {M : List (List AVal)} (h : Par0 L M) : L.length = M.length := by
  induction h with
  | nil => rfl
  | cons _ _ ih => simp [ih]
theorem push_all {L : List (List TV)} {M : List (List AVal)} (hP : Par0 L M) : ∀ {H : HF} {TS : List TOb} {S : Store} (vs : Nat → Nat) (k : Nat), St3 H TS S → TS.length = k → S.length = k →
    ∃ H', HLe H H' ∧ St3 H' (TS ++ cellL L) (S ++ stM M vs k) ∧ ∀ i, i < L.length → SimV H' (.ptr (k + i) 0) (.ptr (k + i) (vs (k + i)) 0) := by
  induction hP with
  | nil =>
    intro H TS S vs k st _ _
    exact ⟨H, fun _ _ h => h, by simpa [cellL, stM] using st, fun i hi => by simp at hi⟩
  | cons h1 _ ih =>
    rename_i cs xs L M
    intro H TS S vs k st hT hS
    obtain ⟨H1, k1, k2, k3⟩ := st.pushCells 0 (h1 _) (vs k)
    obtain ⟨H2, g1, g2, g3⟩ := ih vs (k + 1) k2 (by simp [hT]) (by simp [hS])
    refine ⟨H2, HLe.trans' k1 g1, by simpa [cellL, stM] using g2, fun i hi => ?_⟩
    cases i with
    | zero =>
      have : SimV H1 (.ptr k 0) (.ptr k (vs k) 0) := by
        simp only [SimV]
        rw [hT, hS] at k3
        exact ⟨_, _, _, k3, rfl, rfl⟩
      exact this.ext g1
    | succ i =>
      have := g3 i (by simpa using hi)
      rwa [show k + 1 + i = k + (i + 1) by omega] at this
def ptrA : List (List TV) → (Nat → Nat) → Nat → List AVal
  | [], _, _ => []
  | _ :: L, vs, k => .ptr k (vs k) 0 :: ptrA L vs (k + 1)
theorem ptr_sim {H : HF} : ∀ (L : List (List TV)) (vs : Nat → Nat) (k : Nat), (∀ i, i < L.length → SimV H (.ptr (k + i) 0) (.ptr (k + i) (vs (k + i)) 0)) → SimL H (ptrL L k) (ptrA L vs k)
  | [], vs, k, _ => by simp [ptrL, ptrA, SimL]
  | cs :: L, vs, k, h => by
    simp only [ptrL, ptrA, SimL]
    refine ⟨_, _, rfl, by simpa using h 0 (by simp), ptr_sim L vs (k + 1) fun i hi => ?_⟩
    have := h (i + 1) (by simpa using hi)
    rwa [show k + 1 + i = k + (i + 1) by omega]
theorem nx_len (t : Ty) (r : Bool) (a : T t) (k : Nat) : nx r k = k + (ref1T t r a).length := by
  cases r <;> rfl
theorem arg1M_sim {H : HF} (t : Ty) (r : Bool) (a : T t) (vs : Nat → Nat) (k : Nat) (h : ∀ i, i < (ref1T t r a).length → SimV H (.ptr (k + i) 0) (.ptr (k + i) (vs (k + i)) 0)) : SimV H (arg1M t r a k) (enc1M t r a vs k) := by
  cases r
  · exact tvA_sim t a
  · exact h 0 (by simp [ref1T])
theorem argM_sim {H : HF} : ∀ (ts : Tys) (rs : List Bool) (a : Ts ts) (vs : Nat → Nat) (k : Nat), (∀ i, i < (refsT ts rs a).length → SimV H (.ptr (k + i) 0) (.ptr (k + i) (vs (k + i)) 0)) → SimL H (argM ts rs a k) (encM ts rs a vs k)
  | .nil, _, _, _, _, _ => by simp [argM, encM, SimL]
  | .cons t .nil, rs, a, vs, k, h => by
    simp only [argM, encM, SimL]
    exact ⟨_, _, rfl, arg1M_sim t (hdB rs) a vs k h, rfl⟩
  | .cons t (.cons u ts), rs, (a, b), vs, k, h => by
    simp only [argM, encM, SimL]
    simp only [refsT, List.length_append] at h
    refine ⟨_, _, rfl, arg1M_sim t (hdB rs) a vs k fun i hi => h i (by omega), argM_sim (.cons u ts) (tlB rs) b vs _ fun i hi => ?_⟩
    rw [nx_len t (hdB rs) a k]
    have := h ((ref1T t (hdB rs) a).length + i) (by omega)
    rwa [← Nat.add_assoc] at this
theorem kept_at {H : HF} {F : RF} {A : Frame} (hF : SimF H F A) : ∀ (L : List (List TV)) (k : Nat), keptF F L k = true → ∀ i, i < L.length → SimV H (.ptr (k + i) 0) (A.get (k + i))
  | [], k, _, i, hi => by simp at hi
  | cs :: L, k, h, i, hi => by
    unfold keptF at h
    split at h
    case h_2 => cases h
    rename_i P0 j hl
    split at h
    case h_2 => cases h
    rename_i hj
    have := Nat.eq_of_beq_eq_true hj
    subst this
    cases i with
    | zero => exact (hF _ _ _ _ hl).on holds_nil
    | succ i =>
      have := kept_at hF L (j + 1) h i (by simpa using hi)
      rwa [show j + 1 + i = j + (i + 1) by omega] at this
theorem argP_get : ∀ (L : List (List TV)) (vs : Nat → Nat) (k i : Nat), i < L.length → (argF k (ptrA L vs k)).get (k + i) = .ptr (k + i) (vs (k + i)) 0
  | [], vs, k, i, hi => by simp at hi
  | cs :: L, vs, k, i, hi => by
    simp only [ptrA, argF, Frame.get]
    cases i with
    | zero => simp
    | succ i =>
      have hne : Nat.beq k (k + (i + 1)) = false := by
        cases e : Nat.beq k (k + (i + 1)) with
        | false => rfl
        | true => have := Nat.eq_of_beq_eq_true e; omega
      rw [hne]
      have := argP_get L vs (k + 1) i (by simpa using hi)
      rwa [show k + 1 + i = k + (i + 1) by omega] at this
theorem end1_at {H : HF} {TS : List TOb} {S : Store} (st : St3 H TS S) {t : Ty} {r : Bool} {a : T t} {vs : Nat → Nat} {k : Nat} {q : Prop} (h : end1 TS t r a k q) (hl : ∀ i, i < (ref1T t r a).length → SimV H (.ptr (k + i) 0) (.ptr (k + i) (vs (k + i)) 0)) :
    (∀ i o, (stM (ref1A t r a) vs k)[i]? = some o → S[k + i]? = some o) ∧ q := by
  cases r with
  | false => exact ⟨fun i o hi => by simp [ref1A, stM] at hi, h⟩
  | true =>
    simp only [end1] at h
    split at h
    case h_2 => exact h.elim
    rename_i cs ho
    split at h
    case h_2 => exact h.elim
    rename_i a' hd
    obtain ⟨e, hq⟩ := h
    subst e
    have hp := hl 0 (by simp [ref1T])
    simp only [Nat.add_zero, SimV] at hp
    obtain ⟨hd', p, v, g1, g2, g3⟩ := hp
    cases g3
    obtain ⟨p', v', xs', q1, q2, q3⟩ := cells_get st ho
    rw [q1] at g1; cases g1
    cases g2
    obtain ⟨ws, rfl, hu⟩ := decC_sim t hd q3
    simp only [SimL] at hu
    subst hu
    rw [List.append_nil] at q2
    refine ⟨fun i o hi => ?_, hq⟩
    cases i with
    | zero => simp [ref1A, stM] at hi; subst hi; exact q2
    | succ i => simp [ref1A, stM] at hi
theorem stM_append : ∀ (L M : List (List AVal)) (vs : Nat → Nat) (k : Nat), stM (L ++ M) vs k = stM L vs k ++ stM M vs (k + L.length)
  | [], M, vs, k => rfl
  | cs :: L, M, vs, k => by
    simp only [List.cons_append, stM, List.length_cons]
    rw [stM_append L M vs (k + 1), show k + 1 + L.length = k + (L.length + 1) by omega]
theorem ref1_len (t : Ty) (r : Bool) (a b : T t) : (ref1A t r a).length = (ref1T t r b).length := by cases r <;> rfl
theorem ref1T_len (t : Ty) (r : Bool) (a b : T t) : (ref1T t r a).length = (ref1T t r b).length := by cases r <;> rfl
theorem end_at {H : HF} {TS : List TOb} {S : Store} (st : St3 H TS S) : ∀ (ts : Tys) (rs : List Bool) (a : Ts ts) (vs : Nat → Nat) (k : Nat) {q : Prop}, endM TS ts rs a k q → (∀ i, i < (refsT ts rs a).length → SimV H (.ptr (k + i) 0) (.ptr (k + i) (vs (k + i)) 0)) →
    (∀ i o, (stM (refsA ts rs a) vs k)[i]? = some o → S[k + i]? = some o) ∧ q
  | .nil, _, _, _, _, q, h, _ => ⟨fun i o hi => by simp [refsA, stM] at hi, h⟩
  | .cons t .nil, rs, a, vs, k, q, h, hl => end1_at (a := a) st h hl
  | .cons t (.cons u ts), rs, (a, b), vs, k, q, h, hl => by
    simp only [endM] at h
    simp only [refsT, List.length_append] at hl
    obtain ⟨g1, g2⟩ := end1_at (vs := vs) st h fun i hi => hl i (by omega)
    obtain ⟨g3, g4⟩ := end_at st (.cons u ts) (tlB rs) b vs _ g2 fun i hi => by
      rw [nx_len t (hdB rs) a k]
      have := hl ((ref1T t (hdB rs) a).length + i) (by omega)
      rwa [← Nat.add_assoc] at this
    refine ⟨fun i o hi => ?_, g4⟩
    simp only [refsA] at hi
    rw [stM_append] at hi
    rcases Nat.lt_or_ge i (ref1A t (hdB rs) a).length with c | c
    · rw [List.getElem?_append_left (by rw [stM_length]; exact c)] at hi
      exact g1 i o hi
    · rw [List.getElem?_append_right (by rw [stM_length]; exact c), stM_length] at hi
      have e : nx (hdB rs) k = k + (ref1A t (hdB rs) a).length := by rw [nx_len t (hdB rs) a k, ref1_len t _ a a]
      rw [← e] at hi
      have := g3 _ o hi
      rwa [e, show k + (ref1A t (hdB rs) a).length + (i - (ref1A t (hdB rs) a).length) = k + i by omega] at this
theorem refsT_len : ∀ (ts : Tys) (rs : List Bool) (a b : Ts ts), (refsT ts rs a).length = (refsT ts rs b).length
  | .nil, _, _, _ => rfl
  | .cons t .nil, rs, a, b => ref1T_len t (hdB rs) a b
  | .cons t (.cons u ts), rs, (a, a'), (b, b') => by
    simp only [refsT, List.length_append]
    rw [ref1T_len t (hdB rs) a b, refsT_len (.cons u ts) (tlB rs) a' b']
theorem encM_length : ∀ (ts : Tys) (rs : List Bool) (a : Ts ts) (vs : Nat → Nat) (k : Nat), (encM ts rs a vs k).length = lenTys ts
  | .nil, _, _, _, _ => rfl
  | .cons t .nil, _, _, _, _ => rfl
  | .cons t (.cons u ts), rs, (a, b), vs, k => by
    have := encM_length (.cons u ts) (tlB rs) b vs (nx (hdB rs) k)
    simp only [encM, List.length_cons, this, lenTys]

theorem conM_eq {P : Program} {Γ : List (Nat × Ct)} (hΓ : Cons P Γ) {L : List (Nat × Fi)} (hL : Fis P L) {f : Nat} {fi : Fi} {c : Cm} (hf : FiOk P f fi) {depth : Nat} (hsp : fi.sp = none) (hn : Nat.ble (lenTys c.args) fi.n = true) (hv : allVal c.res = true)
    (vs : Nat → Nat) (x : Ts c.args) {T : Prop} (h : T) (e : T = tConM Γ L depth fi c x) :
    ACalls P f (encM c.args c.ref x vs 0) (stM (refsA c.args c.ref x) vs 0) fun y S' => S' = stM (refsA c.args c.ref (c.fn x).2) vs 0 ∧ y = retA (encsR c.res (c.fn x).1) := by
  have h : tConM Γ L depth fi c x := e ▸ h
  have hlen : (encM c.args c.ref x vs 0).length ≤ fi.n := by rw [encM_length]; exact Nat.le_of_ble_eq_true hn
  obtain ⟨H0, k1, k2, k3⟩ := push_all (refs_par0 c.args c.ref x) vs 0 (St3.nil (S := [])) rfl rfl
  simp only [List.nil_append] at k2
  have hp1 := ptr_sim _ vs 0 k3
  refine (hf.out hsp (R := fun y S' => ∃ H' G' TS' zs us, (match keptM (refsT c.args c.ref x) G' with
    | true => endM TS' c.args c.ref (c.fn x).2 0 (resK TS' c.res zs fun y => eqR c.res y (c.fn x).1)
    | false => False) ∧ St3 H' TS' S' ∧ SimG H' G' [argF 0 (ptrA (refsT c.args c.ref x) vs 0)] ∧ SimL H' zs us ∧ y = retA us)
    (tFunL_sound hΓ (callN_ok hΓ hL depth) h k2 (.cons (arg_sim 0 hp1).1 .nil) (argM_sim c.args c.ref x vs 0 k3) fun zs us S' H' G' TS' q1 q2 q3 q4 => ⟨H', G', TS', zs, us, q1, q2, q3, q4, rfl⟩) hlen).weak ?_
  rintro y S' ⟨H', G', TS', zs, us, h1, st, hG, hs, rfl⟩
  split at h1
  case h_2 => exact h1.elim
  rename_i hk
  have hloc : ∀ i, i < (refsT c.args c.ref x).length → SimV H' (.ptr (0 + i) 0) (.ptr (0 + i) (vs (0 + i)) 0) := fun i hi => by
    unfold keptM at hk
    split at hk
    case h_2 => cases hk
    rename_i F
    cases hG with
    | cons hF _ =>
      have := kept_at hF _ 0 hk i hi
      rwa [argP_get _ vs 0 i hi] at this
  obtain ⟨g1, g2⟩ := end_at st c.args c.ref (c.fn x).2 vs 0 h1 fun i hi => hloc i (by rw [refsT_len c.args c.ref x (c.fn x).2]; exact hi)
  obtain ⟨z, L', ys', r1, r2, r3, r4, r5, _⟩ := resK_sound st c.res 0 g2 hs (by rw [ownN_val hv]; rfl)
  have e2 := eqR_eq c.res r1
  subst e2
  obtain ⟨e3, e4⟩ := val_det c.res _ _ hv r3
  subst e3
  refine ⟨retA _, fun l => l, stM (refsA c.args c.ref (c.fn x).2) vs 0, retA_le r2, ⟨fun l l' hl hl' e => e, fun l o hl => ?_⟩, rfl, rfl⟩
  exact ⟨_, by simpa using g1 l o hl, .refl _⟩

end Go.Vc
