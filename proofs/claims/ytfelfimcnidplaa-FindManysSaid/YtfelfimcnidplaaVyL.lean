/-
  The typed conditions of code are enough for its conditions; functions and contracts.
-/
import Derived.Test.YtfelfimcnidplaaVyK
set_option linter.unusedVariables false
set_option linter.unusedSimpArgs false
namespace Go.Vc

theorem trunc_some {n l : Nat} {H : HF} {h : Hd} (e : truncH n H l = some h) : H l = some h := by
  simp only [truncH] at e
  split at e
  · exact e
  · cases e

theorem exV {A B : Type} : ∀ (ws : List Sh) (p : PT ws A) (m : PT ws B) (g : A → B → Nat → List TV → Prop), (eV ws p m fun a b xs => ∃ k, g a b k xs) → ∃ k, eV ws p m fun a b xs => g a b k xs
  | [], p, m, g, h => h
  | .val t :: ws, p, m, g, h => by simp only [eV] at *; obtain ⟨x, h⟩ := h; obtain ⟨k, h⟩ := exV ws _ _ _ h; exact ⟨k, x, h⟩
  | .sub l :: ws, p, m, g, h => by simp only [eV] at *; obtain ⟨x, y, h⟩ := h; obtain ⟨k, h⟩ := exV ws _ _ _ h; exact ⟨k, x, y, h⟩
  | .con x :: ws, p, m, g, h => by simp only [eV] at *; exact exV ws _ _ _ h
theorem exO {A B : Type} : ∀ (os : List ShO) (p : PO os A) (m : PO os B) (g : A → B → Nat → List TOb → Prop), (eO os p m fun a b xs => ∃ k, g a b k xs) → ∃ k, eO os p m fun a b xs => g a b k xs
  | [], p, m, g, h => h
  | .keep o :: os, p, m, g, h => by simp only [eO] at *; exact exO os _ _ _ h
  | .row nm t :: os, p, m, g, h => by simp only [eO] at *; obtain ⟨x, h⟩ := h; obtain ⟨k, h⟩ := exO os _ _ _ h; exact ⟨k, x, h⟩
  | .drow nm t :: os, p, m, g, h => by simp only [eO] at *; obtain ⟨x, h⟩ := h; obtain ⟨k, h⟩ := exO os _ _ _ h; exact ⟨k, x, h⟩
  | .cells nm k shs :: os, p, m, g, h => by
    simp only [eO] at *
    obtain ⟨k, h⟩ := exV shs _ _ _ (eV_mono _ _ _ (fun a b cs h => exO os _ _ _ h) h)
    exact ⟨k, h⟩
theorem anyV {A B : Type} {C : Prop} : ∀ (ws : List Sh) (p : PT ws A) (m : PT ws B) {g : A → B → List TV → Prop}, (∀ a b xs, g a b xs → C) → eV ws p m g → C
  | [], p, m, g, hg, h => hg _ _ _ h
  | .val t :: ws, p, m, g, hg, h => by simp only [eV] at h; obtain ⟨x, h⟩ := h; exact anyV ws _ _ (fun a b xs => hg a b _) h
  | .sub l :: ws, p, m, g, hg, h => by simp only [eV] at h; obtain ⟨x, y, h⟩ := h; exact anyV ws _ _ (fun a b xs => hg a b _) h
  | .con x :: ws, p, m, g, hg, h => by simp only [eV] at h; exact anyV ws _ _ (fun a b xs => hg a b _) h
theorem anyO {A B : Type} {C : Prop} : ∀ (os : List ShO) (p : PO os A) (m : PO os B) {g : A → B → List TOb → Prop}, (∀ a b xs, g a b xs → C) → eO os p m g → C
  | [], p, m, g, hg, h => hg _ _ _ h
  | .keep o :: os, p, m, g, hg, h => by simp only [eO] at h; exact anyO os _ _ (fun a b xs => hg a b _) h
  | .row nm t :: os, p, m, g, hg, h => by simp only [eO] at h; obtain ⟨x, h⟩ := h; exact anyO os _ _ (fun a b xs => hg a b _) h
  | .drow nm t :: os, p, m, g, hg, h => by simp only [eO] at h; obtain ⟨x, h⟩ := h; exact anyO os _ _ (fun a b xs => hg a b _) h
  | .cells nm k shs :: os, p, m, g, hg, h => by simp only [eO] at h; exact anyV shs _ _ (fun a b cs h => anyO os _ _ (fun a b xs => hg a b _) h) h

section
variable {P : Program} {Γ : List (Nat × Ct)} {call : Nat → List TV → List RF → List TOb → (TV → List RF → List TOb → Prop) → Prop}

theorem vc_ops {l : List GOp} {d : Option (Nat × Nat × List Nat)} {keep : List Nat} {Q : SExit → Frame → Store → Prop} {A : Frame} {S : Store}
    (h : vcOpsD P (fun F' S' => Q .normal (kF keep F') S') (match d with | some m => m.1 | none => 0) l A (S ++ List.replicate (keptN d) .dead)) : vc P (.ops l d keep) Q A S := by
  have e : ∀ (K : Frame → Prop) (F : Frame), onlyK keep F K = K (kF keep F) := fun K F => propext onlyK_iff
  cases d with
  | none => simpa only [vc, e, vcOpsD, keptN, List.replicate_zero, List.append_nil] using h
  | some m => simpa only [vc, e, keptN] using h

/-! ### A nil slice that becomes a row of its own -/
theorem St3.recell {H : HF} {TS : List TOb} {S : Store} (st : St3 H TS S) {l k : Nat} {cs cs' : List TV} {p v : Nat} {xs : List AVal} (hl : l < TS.length) (h1 : H l = some ⟨some (p, v), k, cs'.length, []⟩) (h2 : S[p]? = some (.row v k xs)) (h3 : SimL H cs' xs) : St3 H (TS.set l (.cells k cs')) S := by
  refine ⟨fun m o hm => ?_, fun m hm => st.out m (by simpa using hm), st.inj, st.sub⟩
  by_cases e : m = l
  · subst e
    rw [List.getElem?_set_self hl] at hm
    cases hm
    exact ⟨p, v, xs, h1, h2, h3⟩
  · rw [List.getElem?_set_ne (Ne.symm e)] at hm
    exact st.ob m o hm
theorem HLe.trans' {H1 H2 H3 : HF} (h : HLe H1 H2) (g : HLe H2 H3) : HLe H1 H3 := fun l x e => g l x (h l x e)
theorem promC_len : ∀ (n : Nat) (ts : List Ty) (cs : List TV), (promC n ts cs).1.length = cs.length
  | n, [], cs => by cases cs <;> rfl
  | n, t :: ts, [] => rfl
  | n, t :: ts, c :: cs => by
    simp only [promC]
    split
    · simp [promC_len (n + 1) ts cs]
    · simp [promC_len n ts cs]
theorem promC_sound : ∀ (ts : List Ty) {cs : List TV} {ys : List AVal} {H : HF} {TS : List TOb} {S : Store}, St3 H TS S → SimL H cs ys → ∃ H', HLe H H' ∧ St3 H' (TS ++ (promC TS.length ts cs).2) S ∧ SimL H' (promC TS.length ts cs).1 ys
  | [], cs, ys, H, TS, S, st, hs => by
    have e : promC TS.length [] cs = (cs, []) := by cases cs <;> rfl
    rw [e]
    exact ⟨H, fun _ _ h => h, by simpa using st, hs⟩
  | t :: ts, [], ys, H, TS, S, st, hs => ⟨H, fun _ _ h => h, by simpa [promC] using st, hs⟩
  | t :: ts, c :: cs, ys, H, TS, S, st, hs => by
    simp only [SimL] at hs
    obtain ⟨y, zs, rfl, h1, h2⟩ := hs
    simp only [promC]
    split
    · rename_i e
      simp only [SimV] at h1
      subst h1
      obtain ⟨H1, g1, g2, g3⟩ := st.pushNil e
      obtain ⟨H2, k1, k2, k3⟩ := promC_sound ts g2 (h2.ext g1)
      have el : (TS ++ [TOb.row e []]).length = TS.length + 1 := by simp
      rw [el] at k2 k3
      refine ⟨H2, g1.trans' k1, by simpa using k2, ?_⟩
      simp only [SimL, SimV]
      exact ⟨_, zs, rfl, ⟨_, k1 _ _ g3, rfl⟩, k3⟩
    · obtain ⟨H2, k1, k2, k3⟩ := promC_sound ts st h2
      refine ⟨H2, k1, k2, ?_⟩
      simp only [SimL]
      exact ⟨y, zs, rfl, h1.ext k1, k3⟩
theorem promS_sound {ty : List (Nat × Ty)} {F : RF} : ∀ (mods : List Nat) {H : HF} {TS : List TOb} {S : Store}, St3 H TS S → ∃ H', HLe H H' ∧ St3 H' (promS ty F mods TS) S
  | [], H, TS, S, st => ⟨H, fun _ _ h => h, st⟩
  | s :: ss, H, TS, S, st => by
    simp only [promS]
    split
    · rename_i l t _ _
      split
      · rename_i k cs ho
        obtain ⟨p, v, xs, q1, q2, q3⟩ := cells_get st ho
        obtain ⟨H1, g1, g2, g3⟩ := promC_sound (flatC t) st q3
        rw [setOb_eq, pushL_eq, lenT_eq]
        have st2 := g2.recell (l := l) (k := k) (cs := cs) (p := p) (v := v) (xs := xs) (by have := obj_lt ho; simp; omega) (by rw [g1 _ _ q1, promC_len]) q2 g3
        obtain ⟨H2, k1, k2⟩ := promS_sound ss st2
        exact ⟨H2, g1.trans' k1, k2⟩
      · exact promS_sound ss st
    · exact promS_sound ss st

theorem merge_mem {c : Prop} {Fb : RF} : ∀ {F : RF} {s : Nat} {gs : List (Nat × Bool)} {P : Prop} {z : TV}, (s, gs, P, z) ∈ mergeF c Fb F → gs = [] ∧ P = True ∧ ∃ g p x Q y, (s, g, p, x) ∈ F ∧ lookN Fb s = some ([], Q, y) ∧ pickV c x y = some z
  | [], s, gs, P, z, h => by simp [mergeF] at h
  | (t, g, p, x) :: F, s, gs, P, z, h => by
    simp only [mergeF] at h
    have rec_ : (s, gs, P, z) ∈ mergeF c Fb F → gs = [] ∧ P = True ∧ ∃ g' p' x' Q y, (s, g', p', x') ∈ (t, g, p, x) :: F ∧ lookN Fb s = some ([], Q, y) ∧ pickV c x' y = some z := fun h => by
      obtain ⟨h1, h2, g', p', x', Q, y, h3, h4⟩ := merge_mem h
      exact ⟨h1, h2, g', p', x', Q, y, by simp [h3], h4⟩
    split at h
    · rename_i Q y hl
      split at h
      · rename_i w hw
        rcases List.mem_cons.1 h with e | e
        · cases e
          exact ⟨rfl, rfl, g, p, x, Q, y, by simp, hl, hw⟩
        · exact rec_ e
      · exact rec_ h
    · exact rec_ h

theorem ref_sim {H : HF} {F : RF} {A : Frame} (hF : SimF H F A) {x : Rand} {p : Prop} {y : TV} (hx : rdP F [] x = some y) (hy : asP y = some p) : (p → SimF H (refT F x .tt) A) ∧ (¬ p → SimF H (refT F x .ff) A) := by
  cases x with
  | c z => exact ⟨fun _ => hF, fun _ => hF⟩
  | t n =>
    have key : ∀ {Q : Prop} {z : TV} {v : TV}, lookN F n = some ([], Q, z) → SimV H v (A.get n) → SimF H ((n, [], True, v) :: F) A := fun {Q z v} hl hv s gs P u hu => by
      simp only [lookN] at hu
      split at hu
      · rename_i hb
        cases hu
        rw [← beq_eq hb]
        exact plainEnt hv
      · exact hF _ _ _ _ hu
    have same : ∀ {Q : Prop} {z : TV}, lookN F n = some ([], Q, z) → y = z := fun {Q z} hl => by
      simp only [rdP, hl, sufx] at hx
      cases hx; rfl
    simp only [refT]
    split
    · rename_i Q q hl
      have e := same hl
      subst e
      simp only [asP] at hy; cases hy
      have hs := (hF _ _ _ _ hl).on holds_nil
      simp only [SimV] at hs
      obtain ⟨b, e, hb⟩ := hs
      exact ⟨fun h => key hl (by simp only [SimV]; rw [e, hb.2 h]), fun h => key hl (by simp only [SimV]; rw [e]; cases b; rfl; exact (h (hb.1 rfl)).elim)⟩
    · rename_i Q b hl
      have e := same hl
      subst e
      simp only [asP] at hy; cases hy
      have hs := (hF _ _ _ _ hl).on holds_nil
      simp only [SimV] at hs
      exact ⟨fun h => key hl (by simp only [SimV]; rw [hs, h]), fun h => key hl (by simp only [SimV]; rw [hs]; cases b; rfl; exact (h rfl).elim)⟩
    · exact ⟨fun _ => hF, fun _ => hF⟩

theorem evC_sound (hΓ : Cons P Γ) (hi : Hi) {TS : List TOb} {H : HF} {S : Store} (st : St3 H TS S) : ∀ (c : SCode) {F F' : RF} {ps : List Prop} {A : Frame} {Q' : SExit → Frame → Store → Prop}, SimF H F A → evC Γ hi TS c F = some (ps, F') → AllP ps →
    (∀ A', SimF H F' A' → Q' .normal A' S) → vc P c Q' A S := by
  have app : ∀ {a b : List Prop}, AllP (a ++ b) → AllP a ∧ AllP b := fun {a b} h => ⟨fun p hp => h p (by simp [hp]), fun p hp => h p (by simp [hp])⟩
  intro c
  induction c with
  | skip =>
    intro F F' ps A Q' hF h hps hk
    simp only [evC, Option.some.injEq, Prod.mk.injEq] at h
    obtain ⟨_, rfl⟩ := h
    exact hk _ hF
  | ops l d keep =>
    intro F F' ps A Q' hF h hps hk
    simp only [evC] at h
    split at h
    · cases h
    · rename_i h0
      split at h <;> cases h
      rename_i F1 he
      refine vc_ops ?_
      rw [h0, List.replicate_zero, List.append_nil]
      exact evOps_sound hΓ hi st l _ hF he hps fun A' hA => hk _ (only_sim hA keep)
  | seq a b iha ihb =>
    intro F F' ps A Q' hF h hps hk
    simp only [evC] at h
    split at h
    · rename_i ps1 F1 h1
      split at h <;> cases h
      rename_i qs h2
      obtain ⟨p1, p2⟩ := app hps
      simp only [vc]
      exact iha hF h1 p1 fun A1 hA => ihb hA h2 p2 hk
    · cases h
  | join keep W n a b iha ihb =>
    intro F F' ps A Q' hF h hps hk
    simp only [evC] at h
    split at h
    · rename_i ps1 F1 h1
      split at h <;> cases h
      rename_i qs h2
      obtain ⟨p1, p2⟩ := app hps
      simp only [vc]
      intro K hK
      rw [onlyK_iff, allA_iff] at hK
      refine iha hF h1 p1 fun A1 hA => ?_
      simp only [SExit.onNormal, getsK_iff]
      refine hK _ (by simp) S (ihb ?_ h2 p2 hk)
      exact (zip_sim (only_sim hF keep) (only_plain F keep) W (getsT_sim hA W)).1
    · cases h
  | cond x a b iha ihb =>
    intro F F' ps A Q' hF h hps hk
    simp only [evC] at h
    simp only [vc, rdK_iff]
    split at h
    · rename_i hx
      have := rdP_sim hF holds_nil hx
      simp only [SimV] at this
      rw [this]
      exact ⟨fun _ => iha hF h hps hk, fun e => by cases e⟩
    · rename_i hx
      have := rdP_sim hF holds_nil hx
      simp only [SimV] at this
      rw [this]
      exact ⟨fun e => (by cases e), fun _ => ihb hF h hps hk⟩
    · rename_i y _ _ hx
      split at h
      · rename_i p psa Fa psb Fb hp ha hb
        cases h
        obtain ⟨p1, p2⟩ := app hps
        rw [under_iff] at p1 p2
        have hs := rdP_sim hF holds_nil hx
        have ya : p → vc P a Q' A S := fun hp' => iha ((ref_sim hF hx hp).1 hp') ha (p1 hp') fun A' hA => hk _ fun s gs Q z hz => by
          obtain ⟨rfl, rfl, g, q, u, Q2, v, m1, m2, m3⟩ := merge_mem (look_mem hz)
          obtain ⟨_, _, _, Q3, m4⟩ := only_mem m1
          exact plainEnt ((pickV_sound m3).1 hp' _ ((hA _ _ _ _ m4).on holds_nil))
        have yb : ¬ p → vc P b Q' A S := fun hp' => ihb ((ref_sim hF hx hp).2 hp') hb (p2 hp') fun A' hA => hk _ fun s gs Q z hz => by
          obtain ⟨rfl, rfl, g, q, u, Q2, v, m1, m2, m3⟩ := merge_mem (look_mem hz)
          exact plainEnt ((pickV_sound m3).2 hp' _ ((hA _ _ _ _ m2).on holds_nil))
        cases y <;> simp only [asP] at hp <;> cases hp <;> simp only [SimV] at hs
        · rw [hs]; exact ⟨fun _ => ya trivial, fun e => by cases e⟩
        · rw [hs]; exact ⟨fun e => (by cases e), fun _ => yb id⟩
        · rw [hs]; exact ⟨fun e => ya e, fun e => yb (by simp [e])⟩
        · obtain ⟨w, e, hw⟩ := hs
          rw [e]; exact ⟨fun e => ya (hw.1 e), fun e => yb fun q => by rw [hw.2 q] at e; cases e⟩
        · rcases hs with ⟨e, hq⟩ | ⟨e, hq⟩ <;> rw [e]
          · exact ya hq
          · exact yb hq
      · cases h
    · cases h
  | block id a iha =>
    intro F F' ps A Q' hF h hps hk
    simp only [evC] at h
    simp only [vc]
    exact iha hF h hps fun A' hA => hk _ hA
  | loop keep W n a _ => intro F F' ps A Q' hF h; simp [evC] at h
  | exit id => intro F F' ps A Q' hF h; simp [evC] at h
  | ret => intro F F' ps A Q' hF h; simp [evC] at h

/-- What is to be shown of a way out. -/
def Goes (AG : List Frame) (Q : SExit → TK) (Q' : SExit → Frame → Store → Prop) : Prop :=
  ∀ e A' S' H' F' G' TS', St3 H' TS' S' → SimF H' F' A' → SimG H' G' AG → Q e F' G' TS' → Q' e A' S'

theorem popQ_goes {AG : List Frame} {Q : SExit → TK} {Q' : SExit → Frame → Store → Prop} {A0 : Frame} (h : Goes AG Q Q') : Goes (A0 :: AG) (popQ Q) Q' := fun e A' S' H' F' G' TS' st hF hG hq => by
  cases hG with
  | cons a b => exact h e A' S' H' F' _ TS' st hF b hq

theorem tvc_sound (hΓ : Cons P Γ) (hC : CallOk P call) (hi : Hi) : ∀ (c : SCode) (an : An) {Q : SExit → TK} {Q' : SExit → Frame → Store → Prop} {F : RF} {G : List RF} {TS : List TOb} {H : HF} {A : Frame} {AG : List Frame} {S : Store},
    St3 H TS S → SimF H F A → SimG H G AG → tvc Γ call hi c an Q F G TS → Goes AG Q Q' → vc P c Q' A S := by
  intro c
  induction c with
  | skip => intro an Q Q' F G TS H A AG S st hF hG h hk; exact hk _ _ _ _ _ _ _ st hF hG h
  | exit id => intro an Q Q' F G TS H A AG S st hF hG h hk; exact hk _ _ _ _ _ _ _ st hF hG h
  | ret => intro an Q Q' F G TS H A AG S st hF hG h hk; exact hk _ _ _ _ _ _ _ st hF hG h
  | ops l d keep =>
    intro an Q Q' F G TS H A AG S st hF hG h hk
    simp only [tvc] at h
    split at h
    · rename_i h0
      refine vc_ops ?_
      rw [h0, List.replicate_zero, List.append_nil]
      exact tOps_sound hΓ hC hi l _ st hF hG h fun A' S' H' F' G' TS' q1 q2 q3 q4 => hk _ _ _ _ _ _ _ q1 (only_sim q2 keep) q3 q4
    · rename_i r h0
      split at h
      · rename_i m
        split at h
        · rename_i ps F1 hb he
          have hb := beq_eq hb
          rw [conj_iff] at h
          refine vc_ops ?_
          rw [h0]
          have el : l = l.take m.1 ++ l.drop m.1 := (List.take_append_drop _ _).symm
          have st' : St3 H TS (S ++ List.replicate (r + 1) .dead) := ⟨fun j o hj => (st.ob j o hj).ext (fun _ _ h => h) (fun p x hp => by rw [List.getElem?_append_left (List.getElem?_eq_some_iff.1 hp).1]; exact hp) (fun h => h), st.out, st.inj, fun l i h p v n e1 e2 => by rw [List.length_append]; have g := st.sub l i h p v n e1 e2; exact ⟨by have := g.1; omega, g.2⟩⟩
          have main : vcOpsD P (fun A' S' => vcOps P (fun F' S' => Q' .normal (kF keep F') S') (l.drop m.1) A' S') (l.take m.1).length (l.take m.1) A (S ++ List.replicate (r + 1) .dead) := by
            refine evOps_sound hΓ hi st' _ _ hF he h.1 fun A' hA => ?_
            refine tRes_sound hΓ hi _ (r + 1) st' hA hG h.2 (by simp) (fun d h1 h2 => ?_) fun rest A2 S2 H2 F2 G2 TS2 q1 q2 q3 q4 => ?_
            · simp only [List.length_append, List.length_replicate]
              rw [List.getElem?_append_right (by omega), List.getElem?_replicate, if_pos (by omega)]
            · have := tOps_sound hΓ hC hi rest 0 q1 q2 q3 q4 (K' := fun F' S' => Q' .normal (kF keep F') S') fun A' S' H' F' G' TS' q1 q2 q3 q4 => hk _ _ _ _ _ _ _ q1 (only_sim q2 keep) q3 q4
              simpa only [vcOpsD] using this
          have main := vcOpsD_app _ main
          rw [hb, ← el] at main
          exact main
        · exact h.elim
      · exact h.elim
  | seq a b iha ihb =>
    intro an Q Q' F G TS H A AG S st hF hG h hk
    simp only [tvc] at h
    simp only [vc]
    refine iha _ st hF hG h fun e A' S' H' F' G' TS' q1 q2 q3 q4 => ?_
    cases e with
    | normal => exact ihb _ q1 q2 q3 q4 hk
    | exit id => exact hk _ _ _ _ _ _ _ q1 q2 q3 q4
    | ret => exact hk _ _ _ _ _ _ _ q1 q2 q3 q4
  | join keep W n a b iha ihb =>
    intro an Q Q' F G TS H A AG S st hF hG h hk
    simp only [tvc] at h
    simp only [vc]
    intro K hK
    rw [onlyK_iff, allA_iff] at hK
    split at h
    · rename_i ps F' he
      rw [conj_iff] at h
      refine evC_sound hΓ hi st a hF he h.1 fun A1 hA => ?_
      simp only [SExit.onNormal, getsK_iff]
      exact hK _ (by simp) S (ihb _ st (zip_sim (only_sim hF keep) (only_plain F keep) W (getsT_sim hA W)).1 hG h.2 hk)
    · refine iha _ st hF (.cons (only_sim hF keep) hG) h fun e A' S' H' F' G' TS' q1 q2 q3 q4 => ?_
      cases e with
      | normal =>
        simp only [SExit.onNormal, getsK_iff]
        cases q3 with
        | cons f1 f2 => exact hK _ (by simp) S' (ihb _ q1 (zip_sim (only_sim' f1 keep) (only_plain _ keep) W (getsT_sim q2 W)).1 f2 q4 hk)
      | exit id => exact popQ_goes hk _ _ _ _ _ _ _ q1 q2 q3 q4
      | ret => exact popQ_goes hk _ _ _ _ _ _ _ q1 q2 q3 q4
  | cond x a b iha ihb =>
    intro an Q Q' F G TS H A AG S st hF hG h hk
    simp only [tvc] at h
    simp only [vc, rdK_iff]
    split at h
    · rename_i hx
      have := rdP_sim hF holds_nil hx
      simp only [SimV] at this
      rw [this]
      exact ⟨fun _ => iha _ st hF hG h hk, fun e => by cases e⟩
    · rename_i hx
      have := rdP_sim hF holds_nil hx
      simp only [SimV] at this
      rw [this]
      exact ⟨fun e => (by cases e), fun _ => ihb _ st hF hG h hk⟩
    · rename_i y _ _ hx
      split at h
      · rename_i p hp
        have hs := rdP_sim hF holds_nil hx
        have ya : p → vc P a Q' A S := fun hp' => iha _ st ((ref_sim hF hx hp).1 hp') hG (h.1 hp') hk
        have yb : ¬ p → vc P b Q' A S := fun hp' => ihb _ st ((ref_sim hF hx hp).2 hp') hG (h.2 hp') hk
        cases y <;> simp only [asP] at hp <;> cases hp <;> simp only [SimV] at hs
        · rw [hs]; exact ⟨fun _ => ya trivial, fun e => by cases e⟩
        · rw [hs]; exact ⟨fun e => (by cases e), fun _ => yb id⟩
        · rw [hs]; exact ⟨fun e => ya e, fun e => yb (by simp [e])⟩
        · obtain ⟨w, e, hw⟩ := hs
          rw [e]; exact ⟨fun e => ya (hw.1 e), fun e => yb fun q => by rw [hw.2 q] at e; cases e⟩
        · rcases hs with ⟨e, hq⟩ | ⟨e, hq⟩ <;> rw [e]
          · exact ya hq
          · exact yb hq
      · exact h.elim
    · exact h.elim
  | block id a iha =>
    intro an Q Q' F G TS H A AG S st hF hG h hk
    simp only [tvc] at h
    simp only [vc]
    refine iha _ st hF hG h fun e A' S' H' F' G' TS' q1 q2 q3 q4 => ?_
    cases e with
    | normal => exact hk _ _ _ _ _ _ _ q1 q2 q3 q4
    | exit id' =>
      simp only [onB] at q4
      simp only [SExit.onBlock]
      cases hb : Nat.beq id' id <;> rw [hb] at q4 <;> exact hk _ _ _ _ _ _ _ q1 q2 q3 q4
    | ret => exact hk _ _ _ _ _ _ _ q1 q2 q3 q4
  | loop keep W n a iha =>
    intro an Q Q' F G TS H A AG S st hF hG h hk
    simp only [tvc, tLoopP] at h
    obtain ⟨H2, hle, st2⟩ := promS_sound (ty := hi.ty) (F := F) an.mods st
    replace hF := hF.ext hle
    replace hG := hG.ext hle
    clear st hle
    generalize promS hi.ty F an.mods TS = TS3 at h st2
    clear TS H
    revert H2 hF hG TS3 h st2
    intro H hF hG TS h st
    simp only [tLoop] at h
    generalize fsts (idsS hi.nm F TS an.subs) = SB at h
    generalize idsS hi.nm F TS an.mods = MS at h
    obtain ⟨I, m, h0, hstep⟩ := h
    have ho : OutN TS.length H := st.out
    have hws : ∀ s ∈ shVs SB (getsT F W), ShLt TS.length s := shVs_lt (simL_ref ho (getsT_sim hF W))
    have hos : ∀ s ∈ shOs MS SB 0 TS, ShOLt TS.length s := shOs_lt 0 (st_refs st)
    have hol : (shOs MS SB 0 TS).length = TS.length := shOs_len 0 TS
    -- what a typed state describes
    have back : ∀ {H' : HF} {TS' : List TOb} {xs : List TV} {ys : List AVal} {S' : Store} {f : Prop → Nat → Prop}, St3 H' TS' S' → SimL H' xs ys → SimF (truncH TS.length H') (onlyT F keep) (kF keep A) → SimG (truncH TS.length H') G AG →
        (aV TS' (shVs SB (getsT F W)) I m xs fun I' m' => aO TS' (shOs MS SB 0 TS) I' m' TS' f) →
        eV (shVs SB (getsT F W)) I m fun I1 m1 txs => eO (shOs MS SB 0 TS) I1 m1 fun I2 m2 TS1 => f I2 m2 ∧ ∃ H1, St3 H1 TS1 S' ∧ SimL H1 txs ys ∧ SimF H1 (onlyT F keep) (kF keep A) ∧ SimG H1 G AG := by
      intro H' TS' xs ys S' f st' hs hF0 hG0 ha
      refine eV_mono _ _ _ (fun I1 m1 txs ⟨g1, g2⟩ => ?_) (aV_sound (n := TS.length) st' _ _ _ hws ha hs)
      refine eO_mono _ _ _ (fun I2 m2 TS1 ⟨g3, g4, g5⟩ => ?_) (aO_sound (n := TS.length) st' _ _ _ 0 hos (by rw [hol]; omega) (fun l o hl => by rw [Nat.zero_add]; exact st'.ob l o hl) g1)
      refine ⟨g3, truncH TS.length H', ⟨fun l o hl => ?_, fun l hl => ?_, fun l l' h h' p v v' e1 e2 e3 e4 => ?_, fun l i h p v n e1 e2 => ?_⟩, g2, hF0, hG0⟩
      · have := g5 l o hl; rwa [Nat.zero_add] at this
      · rw [g4, hol] at hl
        simp only [truncH]
        rw [if_neg (by omega)]
      · exact st'.inj _ _ _ _ _ _ _ (trunc_some e1) (trunc_some e2) e3 e4
      · obtain ⟨k1, k2, k3⟩ := st'.sub _ _ _ _ _ _ (trunc_some e1) e2
        exact ⟨k1, fun l' h' v' q1 q2 => k2 _ _ _ (trunc_some q1) q2, fun l' i' h' v' n' q1 q2 => k3 _ _ _ _ _ (trunc_some q1) q2⟩
    have tr : truncH TS.length H = H := by
      funext l
      simp only [truncH]
      split
      · rfl
      · rename_i hl; exact (ho l (by omega)).symm
    simp only [vc]
    refine ⟨fun k xs os => eV (shVs SB (getsT F W)) I m fun I1 m1 txs => eO (shOs MS SB 0 TS) I1 m1 fun I2 m2 TS1 => (I2 ∧ m2 = k) ∧ ∃ H1, St3 H1 TS1 os ∧ SimL H1 txs xs ∧ SimF H1 (onlyT F keep) (kF keep A) ∧ SimG H1 G AG, ?_, ?_⟩
    · rw [getsK_iff]
      have b := back (f := fun I _ => I) st (getsT_sim hF W) (by rw [tr]; exact only_sim hF keep) (by rw [tr]; exact hG) h0
      obtain ⟨k, hk⟩ := exV _ _ _ (fun I1 m1 k txs => eO (shOs MS SB 0 TS) I1 m1 fun I2 m2 TS1 => (I2 ∧ m2 = k) ∧ ∃ H1, St3 H1 TS1 S ∧ SimL H1 txs (W.map A.get) ∧ SimF H1 (onlyT F keep) (kF keep A) ∧ SimG H1 G AG)
        (eV_mono _ _ _ (fun a b txs h => exO _ _ _ _ (eO_mono _ _ _ (fun I2 m2 TS1 ⟨g1, g2⟩ => ⟨m2, ⟨g1, rfl⟩, g2⟩) h)) b)
      exact ⟨k, hk⟩
    · rw [onlyK_iff, allA_iff]
      intro xs _ k os hI
      obtain ⟨I1, m1, txs, q1, q2⟩ := qV_eV _ _ _ _ hstep hI
      obtain ⟨I2, m2, TS1, q3, ⟨q4, q5⟩, H1, q6, q7, q8, q9⟩ := qO_eO _ _ _ q1 q2
      have ho1 : OutN TS1.length H1 := q6.out
      refine iha _ q6 (zip_sim q8 (only_plain F keep) W q7).1 (.cons q8 q9) (q3 q4) fun e A' S' H' F' G' TS' r1 r2 r3 r4 => ?_
      cases e with
      | normal =>
        simp only [SExit.onNormal, getsK_iff]
        obtain ⟨H2, F2, G2, TS2, s1, s2, s3, s4⟩ := swaps_sound _ r4 r1 r2 r3
        cases s3 with
        | cons f1 f2 =>
          simp only at s4
          split at s4
          · rename_i e1 e2
            have b := back s1 (getsT_sim s2 W) (same_sim e1 (only_sim hF keep) f1 ho) (sameG_sim ho e2 hG f2) s4
            obtain ⟨k', hk'⟩ := exV _ _ _ (fun J1 n1 k' txs => eO (shOs MS SB 0 TS) J1 n1 fun J2 n2 TS1 => (k' < k ∧ J2 ∧ n2 = k') ∧ ∃ H1, St3 H1 TS1 S' ∧ SimL H1 txs (W.map A'.get) ∧ SimF H1 (onlyT F keep) (kF keep A) ∧ SimG H1 G AG)
              (eV_mono _ _ _ (fun a b txs h => exO _ _ _ _ (eO_mono _ _ _ (fun J2 n2 TS1 ⟨⟨g1, g1'⟩, g2⟩ => ⟨n2, ⟨by rw [← q5]; exact g1', g1, rfl⟩, g2⟩) h)) b)
            have lt : k' < k := by
              exact anyV _ _ _ (fun a b xs h => anyO _ _ _ (fun J2 n2 TS1 h => h.1.1) h) hk'
            exact ⟨k', lt, eV_mono _ _ _ (fun a b txs h => eO_mono _ _ _ (fun J2 n2 TS1 ⟨⟨_, g1, g2⟩, g3⟩ => ⟨⟨g1, g2⟩, g3⟩) h) hk'⟩
          · exact s4.elim
      | exit id => exact popQ_goes hk _ _ _ _ _ _ _ r1 r2 r3 r4
      | ret => exact popQ_goes hk _ _ _ _ _ _ _ r1 r2 r3 r4
end
end Go.Vc
