/-
  Code as a whole: branches, loops with invariants over plain terms, functions, contracts.
-/
import Derived.Test.YtfelfimcnidplaaVyJ
set_option linter.unusedVariables false
set_option linter.unusedSimpArgs false
namespace Go.Vc

/-! ### There is a reading, for all readings -/
def eV {A B : Type} : (ws : List Sh) → PT ws A → PT ws B → (A → B → List TV → Prop) → Prop
  | [], p, m, f => f p m []
  | .val t :: r, p, m, f => ∃ x : T t, eV r (p x) (m x) fun p m xs => f p m (tvA t x :: xs)
  | .sub l :: r, p, m, f => ∃ (off : Int) (len : Int), eV r (p off len) (m off len) fun p m xs => f p m (.sl l off len :: xs)
  | .con x :: r, p, m, f => eV r p m fun p m xs => f p m (x :: xs)
def eO {A B : Type} : (os : List ShO) → PO os A → PO os B → (A → B → List TOb → Prop) → Prop
  | [], p, m, f => f p m []
  | .keep o :: r, p, m, f => eO r p m fun p m S => f p m (o :: S)
  | .row _ t :: r, p, m, f => ∃ l : List (T t), eO r (p l) (m l) fun p m S => f p m (.row t l :: S)
  | .drow _ t :: r, p, m, f => ∃ l : List (List (T t)), eO r (p l) (m l) fun p m S => f p m (.drow t l :: S)
  | .cells _ k shs :: r, p, m, f => eV shs p m fun p m cs => eO r p m fun p m S => f p m (.cells k cs :: S)

theorem qV_eV {A B : Type} : ∀ (ws : List Sh) (ns : List String) (p : PT ws A) (m : PT ws B) {f g : A → B → List TV → Prop}, qV ns ws p m f → eV ws p m g → ∃ a b xs, f a b xs ∧ g a b xs
  | [], ns, p, m, f, g, h, h' => ⟨p, m, [], h, h'⟩
  | .val t :: r, ns, p, m, f, g, h, h' => by
    simp only [qV, eV] at h h'
    obtain ⟨x, h'⟩ := h'
    obtain ⟨a, b, xs, h1, h2⟩ := qV_eV r _ _ _ (h x) h'
    exact ⟨a, b, _, h1, h2⟩
  | .sub l :: r, ns, p, m, f, g, h, h' => by
    simp only [qV, eV] at h h'
    obtain ⟨x, y, h'⟩ := h'
    obtain ⟨a, b, xs, h1, h2⟩ := qV_eV r _ _ _ (h x y) h'
    exact ⟨a, b, _, h1, h2⟩
  | .con x :: r, ns, p, m, f, g, h, h' => by
    simp only [qV, eV] at h h'
    obtain ⟨a, b, xs, h1, h2⟩ := qV_eV r _ _ _ h h'
    exact ⟨a, b, _, h1, h2⟩
theorem qO_eO {A B : Type} : ∀ (os : List ShO) (p : PO os A) (m : PO os B) {f g : A → B → List TOb → Prop}, qO os p m f → eO os p m g → ∃ a b xs, f a b xs ∧ g a b xs
  | [], p, m, f, g, h, h' => ⟨p, m, [], h, h'⟩
  | .keep o :: r, p, m, f, g, h, h' => by
    simp only [qO, eO] at h h'
    obtain ⟨a, b, xs, h1, h2⟩ := qO_eO r _ _ h h'
    exact ⟨a, b, _, h1, h2⟩
  | .row nm t :: r, p, m, f, g, h, h' => by
    simp only [qO, eO] at h h'
    obtain ⟨x, h'⟩ := h'
    obtain ⟨a, b, xs, h1, h2⟩ := qO_eO r _ _ (h x) h'
    exact ⟨a, b, _, h1, h2⟩
  | .drow nm t :: r, p, m, f, g, h, h' => by
    simp only [qO, eO] at h h'
    obtain ⟨x, h'⟩ := h'
    obtain ⟨a, b, xs, h1, h2⟩ := qO_eO r _ _ (h x) h'
    exact ⟨a, b, _, h1, h2⟩
  | .cells nm k shs :: r, p, m, f, g, h, h' => by
    simp only [qO, eO] at h h'
    obtain ⟨p', m', cs, h1, h2⟩ := qV_eV shs _ _ _ h h'
    obtain ⟨a, b, xs, g1, g2⟩ := qO_eO r _ _ h1 h2
    exact ⟨a, b, _, g1, g2⟩

theorem eV_mono {A B : Type} : ∀ (ws : List Sh) (p : PT ws A) (m : PT ws B) {f g : A → B → List TV → Prop}, (∀ a b xs, f a b xs → g a b xs) → eV ws p m f → eV ws p m g
  | [], p, m, f, g, hm, h => hm _ _ _ h
  | .val t :: r, p, m, f, g, hm, h => by
    simp only [eV] at *
    obtain ⟨x, h⟩ := h
    exact ⟨x, eV_mono r _ _ (fun a b xs => hm a b _) h⟩
  | .sub l :: r, p, m, f, g, hm, h => by
    simp only [eV] at *
    obtain ⟨x, y, h⟩ := h
    exact ⟨x, y, eV_mono r _ _ (fun a b xs => hm a b _) h⟩
  | .con x :: r, p, m, f, g, hm, h => by
    simp only [eV] at *
    exact eV_mono r _ _ (fun a b xs => hm a b _) h
theorem eO_mono {A B : Type} : ∀ (os : List ShO) (p : PO os A) (m : PO os B) {f g : A → B → List TOb → Prop}, (∀ a b xs, f a b xs → g a b xs) → eO os p m f → eO os p m g
  | [], p, m, f, g, hm, h => hm _ _ _ h
  | .keep o :: r, p, m, f, g, hm, h => by
    simp only [eO] at *
    exact eO_mono r _ _ (fun a b xs => hm a b _) h
  | .row nm t :: r, p, m, f, g, hm, h => by
    simp only [eO] at *
    obtain ⟨x, h⟩ := h
    exact ⟨x, eO_mono r _ _ (fun a b xs => hm a b _) h⟩
  | .drow nm t :: r, p, m, f, g, hm, h => by
    simp only [eO] at *
    obtain ⟨x, h⟩ := h
    exact ⟨x, eO_mono r _ _ (fun a b xs => hm a b _) h⟩
  | .cells nm k shs :: r, p, m, f, g, hm, h => by
    simp only [eO] at *
    exact eV_mono shs _ _ (fun a b cs h => eO_mono r _ _ (fun a b xs => hm a b _) h) h

/-! ### Values and objects taken apart and put together -/
theorem decAV_sim {H : HF} {t : Ty} {x : TV} {a : T t} {y : AVal} (h : decAV t x = some a) (hs : SimV H x y) {H' : HF} : SimV H' (tvA t a) y := by
  cases t with
  | int k =>
    simp only [decAV, decAI] at h
    split at h
    · rename_i k' n hi
      split at h <;> cases h
      rename_i hk
      have hk := kEq_eq hk
      subst hk
      rw [asI_sim hi hs]
      simp [tvA, SimV]
    · cases h
  | str =>
    simp only [decAV] at h
    unfold decAS at h
    split at h <;> cases h
    simp only [SimV] at hs
    simpa [tvA, SimV] using hs
  | bool =>
    simp only [decAV] at h
    rw [asB_sim h hs]
    simp [tvA, SimV]
  | st fs =>
    simp only [decAV] at h
    unfold decAg at h
    split at h
    · split at h <;> cases h
      rename_i hd
      simp only [SimV] at hs
      obtain ⟨xs, rfl, hs⟩ := hs
      obtain ⟨zs, rfl, hz⟩ := decCs_sim fs hd hs
      simp only [SimL] at hz
      subst hz
      simp only [tvA, SimV]
      exact ⟨_, rfl, by rw [List.append_nil]; exact cellsTs_sim fs _⟩
    · cases h
  | sl e =>
    simp only [decAV] at h
    split at h
    · split at h <;> cases h
      rename_i hh _
      subst hh
      simp only [SimV] at hs
      simpa only [tvA, SimV] using hs
    · cases h

def ShLt (n : Nat) : Sh → Prop
  | .val _ => True
  | .sub l => l < n
  | .con x => RefLt n x
def ShOLt (n : Nat) : ShO → Prop
  | .keep (.cells _ cs) => RefLtL n cs
  | .cells _ _ shs => ∀ s ∈ shs, ShLt n s
  | _ => True

mutual
theorem eqS_eq : ∀ {x y : TV} {ps : List Prop}, eqS x y = some ps → AllP ps → x = y
  | x, y, ps, h, hp => by
    unfold eqS at h
    split at h
    · split at h <;> cases h
      rename_i hk
      have hk := kEq_eq hk
      subst hk
      rw [hp.cons.1]
    · cases h; rw [hp.cons.1]
    · cases h; rw [hp.cons.1]
    · cases h; rw [hp.cons.1]
    · split at h <;> cases h
      rename_i hh _
      subst hh
      have := hp.cons.1
      simp only at this
      rw [this]
    · split at h <;> cases h
      rename_i hb
      rw [beq_eq hb, hp.cons.1, hp.cons.2.cons.1]
    · split at h
      · rename_i hb
        rw [beq_eq hb, eqSs_eq h hp]
      · cases h
    · rw [eqSs_eq h hp]
    · rw [eqSs_eq h hp]
    · split at h <;> cases h
      rename_i hs
      exact sameV_eq hs
theorem eqSs_eq : ∀ {xs ys : List TV} {ps : List Prop}, eqSs xs ys = some ps → AllP ps → xs = ys
  | [], [], _, _, _ => rfl
  | [], _ :: _, _, h, _ => by simp [eqSs] at h
  | _ :: _, [], _, h, _ => by simp [eqSs] at h
  | x :: xs, y :: ys, ps, h, hp => by
    simp only [eqSs] at h
    split at h <;> cases h
    rename_i h1 h2
    rw [eqS_eq h1 fun q hq => hp q (by simp [hq]), eqSs_eq h2 fun q hq => hp q (by simp [hq])]
end
theorem aV_sound {A B : Type} {H : HF} {TS : List TOb} {S : Store} {n : Nat} (st : St3 H TS S) : ∀ (ws : List Sh) (p : PT ws A) (m : PT ws B) {xs : List TV} {ys : List AVal} {f : A → B → Prop}, (∀ s ∈ ws, ShLt n s) → aV TS ws p m xs f → SimL H xs ys →
    eV ws p m fun a b xs' => f a b ∧ SimL (truncH n H) xs' ys
  | [], p, m, xs, ys, f, hn, h, hs => by
    cases xs with
    | nil => simp only [aV] at h; simp only [eV]; exact ⟨h, by simpa [SimL] using hs⟩
    | cons => simp [aV] at h
  | .val t :: r, p, m, xs, ys, f, hn, h, hs => by
    cases xs with
    | nil => simp [aV] at h
    | cons x xs =>
      simp only [aV] at h
      split at h
      · rename_i a ha
        simp only [SimL] at hs
        obtain ⟨y, zs, rfl, h1, h2⟩ := hs
        simp only [eV]
        exact ⟨a, eV_mono r _ _ (fun a b xs' ⟨g1, g2⟩ => ⟨g1, by simp only [SimL]; exact ⟨_, _, rfl, decAV_sim ha h1, g2⟩⟩) (aV_sound st r _ _ (fun s hs => hn s (by simp [hs])) h h2)⟩
      · exact h.elim
  | .sub l :: r, p, m, xs, ys, f, hn, h, hs => by
    have hl : l < n := hn (.sub l) (by simp)
    have go : ∀ {x : TV} {xs : List TV} {off len : Int}, SimL H (x :: xs) ys → (∀ y, SimV H x y → SimV H (.sl l off len) y) → aV TS r (p off len) (m off len) xs f → eV (.sub l :: r) p m fun a b xs' => f a b ∧ SimL (truncH n H) xs' ys := fun {x xs off len} hs hx h => by
      simp only [SimL] at hs
      obtain ⟨y, zs, rfl, h1, h2⟩ := hs
      simp only [eV]
      refine ⟨off, len, eV_mono r _ _ (fun a b xs' ⟨g1, g2⟩ => ⟨g1, ?_⟩) (aV_sound st r _ _ (fun s hs => hn s (by simp [hs])) h h2)⟩
      simp only [SimL]
      exact ⟨_, _, rfl, trunc_sim hl (hx y h1), g2⟩
    cases xs with
    | nil => simp [aV] at h
    | cons x xs =>
      cases x <;> simp only [aV] at h <;> first | exact h.elim | skip
      · split at h
        · rename_i hb ho
          have e := beq_eq hb
          subst e
          refine go hs (fun y hy => ?_) h
          obtain ⟨loc, q1, q2⟩ := row_get st ho
          simp only [SimV] at hy ⊢
          obtain ⟨hd, e1, rfl⟩ := hy
          rw [q1] at e1; cases e1
          exact ⟨_, q1, by omega, by omega, by simp only; omega, by simp⟩
        · exact h.elim
      · split at h
        · rename_i hb
          have e := beq_eq hb
          subst e
          exact go hs (fun _ h => h) h
        · exact h.elim
  | .con x0 :: r, p, m, xs, ys, f, hn, h, hs => by
    have hl : RefLt n x0 := hn (.con x0) (by simp)
    cases xs with
    | nil => simp [aV] at h
    | cons x xs =>
      simp only [aV] at h
      have fin : x0 = x → aV TS r p m xs f → eV (.con x0 :: r) p m fun a b xs' => f a b ∧ SimL (truncH n H) xs' ys := fun e hk => by
        subst e
        simp only [SimL] at hs
        obtain ⟨y, zs, rfl, h1, h2⟩ := hs
        simp only [eV]
        exact eV_mono r _ _ (fun a b xs' ⟨g1, g2⟩ => ⟨g1, by simp only [SimL]; exact ⟨_, _, rfl, trunc_sim hl h1, g2⟩⟩) (aV_sound st r _ _ (fun s hs => hn s (by simp [hs])) hk h2)
      split at h
      · rename_i hsame
        exact fin (sameV_eq hsame) h
      · split at h
        · rename_i ps hps
          obtain ⟨h1, h2⟩ := conj_iff.1 h
          exact fin (eqS_eq hps h1) h2
        · exact h.elim

theorem eqO_eq {o o' : TOb} {ps : List Prop} (h : eqO o o' = some ps) (hp : AllP ps) : o = o' := by
  unfold eqO at h
  split at h
  · rfl
  · split at h <;> cases h
    rename_i hh _
    subst hh
    have := hp.cons.1
    simp only at this
    rw [this]
  · split at h <;> cases h
    rename_i hh _
    subst hh
    have := hp.cons.1
    simp only at this
    rw [this]
  · split at h
    · rename_i hb
      rw [beq_eq hb, eqSs_eq h hp]
    · cases h
  · cases h

theorem ObS.trunc {H : HF} {S : Store} {n l : Nat} {o : TOb} (h : ObS H S l o) (hl : l < n) (hr : ∀ k cs, o = .cells k cs → RefLtL n cs) : ObS (truncH n H) S l o := by
  cases o with
  | dead => simp only [ObS, trunc_lt hl] at *; exact h
  | cells k cs =>
    obtain ⟨p, v, xs, h1, h2, h3⟩ := h
    exact ⟨p, v, xs, by rw [trunc_lt hl]; exact h1, h2, truncL_sim (hr k cs rfl) h3⟩
  | row t ls =>
    obtain ⟨loc, h1, h2⟩ := h
    exact ⟨loc, by rw [trunc_lt hl]; exact h1, h2⟩
  | drow t ls =>
    obtain ⟨p, v, sub, h1, h2, h3⟩ := h
    exact ⟨p, v, sub, by rw [trunc_lt hl]; exact h1, h2, h3⟩

theorem SimL_len {H : HF} {cs cs' : List TV} {xs : List AVal} (h : SimL H cs xs) {H' : HF} (h' : SimL H' cs' xs) : cs'.length = cs.length := by rw [← h.length, h'.length]

theorem aO_sound {A B : Type} {H : HF} {TS : List TOb} {S : Store} {n : Nat} (st : St3 H TS S) : ∀ (os : List ShO) (p : PO os A) (m : PO os B) (i : Nat) {TL : List TOb} {f : A → B → Prop}, (∀ s ∈ os, ShOLt n s) → i + os.length ≤ n → (∀ (l : Nat) o, TL[l]? = some o → ObS H S (i + l) o) → aO TS os p m TL f →
    eO os p m fun a b TS1 => f a b ∧ TS1.length = os.length ∧ ∀ (l : Nat) o, TS1[l]? = some o → ObS (truncH n H) S (i + l) o
  | [], p, m, i, TL, f, hn, hi, ho, h => by simp only [aO] at h; simp only [eO]; exact ⟨h, rfl, by simp⟩
  | .keep o :: r, p, m, i, TL, f, hn, hi, ho, h => by
    cases TL with
    | nil => simp [aO] at h
    | cons o' TL =>
      simp only [aO] at h
      split at h
      · rename_i ps he
        rw [conj_iff] at h
        have e := eqO_eq he h.1
        subst e
        simp only [eO]
        refine eO_mono r _ _ (fun a b TS1 ⟨g1, g2, g3⟩ => ⟨g1, by simp [g2], fun l o1 hl => ?_⟩) (aO_sound st r _ _ (i + 1) (fun s hs => hn s (by simp [hs])) (by simp at hi; omega) (fun l o1 hl => by
          have := ho (l + 1) o1 (by simpa using hl)
          rwa [show i + (l + 1) = i + 1 + l by omega] at this) h.2)
        cases l with
        | zero =>
          simp at hl
          subst hl
          refine (ho 0 o (by simp)).trunc (by simp at hi; omega) fun k cs e => ?_
          subst e
          exact hn (.keep (.cells k cs)) (by simp)
        | succ l =>
          have := g3 l o1 (by simpa using hl)
          rwa [show i + 1 + l = i + (l + 1) by omega] at this
      · exact h.elim
  | .row nm t :: r, p, m, i, TL, f, hn, hi, ho, h => by
    cases TL with
    | nil => simp [aO] at h
    | cons o' TL =>
      cases o' <;> simp only [aO] at h <;> first | exact h.elim | skip
      split at h
      · rename_i hh _
        subst hh
        simp only [eO]
        refine ⟨_, eO_mono r _ _ (fun a b TS1 ⟨g1, g2, g3⟩ => ⟨g1, by simp [g2], fun l o1 hl => ?_⟩) (aO_sound st r _ _ (i + 1) (fun s hs => hn s (by simp [hs])) (by simp at hi; omega) (fun l o1 hl => by
          have := ho (l + 1) o1 (by simpa using hl)
          rwa [show i + (l + 1) = i + 1 + l by omega] at this) h)⟩
        cases l with
        | zero =>
          simp at hl
          subst hl
          exact (ho 0 _ (by simp)).trunc (by simp at hi; omega) (fun k cs e => by cases e)
        | succ l =>
          have := g3 l o1 (by simpa using hl)
          rwa [show i + 1 + l = i + (l + 1) by omega] at this
      · exact h.elim
  | .drow nm t :: r, p, m, i, TL, f, hn, hi, ho, h => by
    cases TL with
    | nil => simp [aO] at h
    | cons o' TL =>
      cases o' <;> simp only [aO] at h <;> first | exact h.elim | skip
      split at h
      · rename_i hh _
        subst hh
        simp only [eO]
        refine ⟨_, eO_mono r _ _ (fun a b TS1 ⟨g1, g2, g3⟩ => ⟨g1, by simp [g2], fun l o1 hl => ?_⟩) (aO_sound st r _ _ (i + 1) (fun s hs => hn s (by simp [hs])) (by simp at hi; omega) (fun l o1 hl => by
          have := ho (l + 1) o1 (by simpa using hl)
          rwa [show i + (l + 1) = i + 1 + l by omega] at this) h)⟩
        cases l with
        | zero =>
          simp at hl
          subst hl
          exact (ho 0 _ (by simp)).trunc (by simp at hi; omega) (fun k cs e => by cases e)
        | succ l =>
          have := g3 l o1 (by simpa using hl)
          rwa [show i + 1 + l = i + (l + 1) by omega] at this
      · exact h.elim
  | .cells nm k shs :: r, p, m, i, TL, f, hn, hi, ho, h => by
    cases TL with
    | nil => simp [aO] at h
    | cons o' TL =>
      cases o' <;> simp only [aO] at h <;> first | exact h.elim | skip
      split at h
      · rename_i k' cs hb
        have e := beq_eq hb
        subst e
        obtain ⟨q, v, xs, q1, q2, q3⟩ := ho 0 _ rfl
        simp only [eO]
        refine eV_mono shs _ _ (fun a b cs' ⟨g1, g2⟩ => ?_) (aV_sound (n := n) st shs _ _ (hn (.cells nm k shs) (by simp)) h q3)
        refine eO_mono r _ _ (fun a b TS1 ⟨g1, g3, g4⟩ => ⟨g1, by simp [g3], fun l o1 hl => ?_⟩) (aO_sound st r _ _ (i + 1) (fun s hs => hn s (by simp [hs])) (by simp at hi; omega) (fun l o1 hl => by
          have := ho (l + 1) o1 (by simpa using hl)
          rwa [show i + (l + 1) = i + 1 + l by omega] at this) g1)
        cases l with
        | zero =>
          simp at hl
          subst hl
          refine ⟨q, v, xs, ?_, q2, g2⟩
          rw [trunc_lt (by simp at hi; omega), q1, SimL_len q3 g2]
        | succ l =>
          have := g4 l o1 (by simpa using hl)
          rwa [show i + 1 + l = i + (l + 1) by omega] at this
      · exact h.elim

theorem shV_lt {n : Nat} {subs : List Nat} {x : TV} (h : RefLt n x) : ShLt n (shV subs x) := by
  unfold shV
  split
  · split
    · trivial
    · exact h
  · exact h
  · split
    · exact h
    · exact h
  · split
    · trivial
    · exact h
theorem shVs_lt {n : Nat} {subs : List Nat} : ∀ {xs : List TV}, RefLtL n xs → ∀ s ∈ shVs subs xs, ShLt n s
  | [], _, s, hs => by simp [shVs] at hs
  | x :: xs, h, s, hs => by
    simp only [shVs] at hs
    rcases List.mem_cons.1 hs with rfl | hs
    · exact shV_lt h.1
    · exact shVs_lt h.2 s hs
theorem shOs_len {ms : List (Nat × String)} {subs : List Nat} : ∀ (i : Nat) (TS : List TOb), (shOs ms subs i TS).length = TS.length
  | _, [] => rfl
  | i, o :: TS => by simp [shOs, shOs_len (i + 1) TS]
theorem shOs_lt {n : Nat} {ms : List (Nat × String)} {subs : List Nat} : ∀ (i : Nat) {TS : List TOb}, (∀ o ∈ TS, ∀ k cs, o = .cells k cs → RefLtL n cs) → ∀ s ∈ shOs ms subs i TS, ShOLt n s
  | _, [], _, s, hs => by simp [shOs] at hs
  | i, o :: TS, h, s, hs => by
    simp only [shOs] at hs
    rcases List.mem_cons.1 hs with rfl | hs
    · split
      · cases o with
        | dead => trivial
        | row t l => trivial
        | drow t l => trivial
        | cells k cs => exact shVs_lt (h _ (by simp) k cs rfl)
      · cases o with
        | dead => trivial
        | row t l => trivial
        | drow t l => trivial
        | cells k cs => exact h _ (by simp) k cs rfl
    · exact shOs_lt (i + 1) (fun o ho => h o (by simp [ho])) s hs

theorem st_refs {H : HF} {TS : List TOb} {S : Store} (st : St3 H TS S) : ∀ o ∈ TS, ∀ k cs, o = .cells k cs → RefLtL TS.length cs := fun o ho k cs e => by
  subst e
  obtain ⟨l, hl⟩ := List.getElem?_of_mem ho
  obtain ⟨p, v, xs, h1, h2, h3⟩ := st.ob l _ hl
  exact simL_ref st.out h3
end Go.Vc
