/-
  Typed objects and the store; contracts over plain terms, and their use where a store stands.
-/
import Derived.Test.YtfelfimcnidplaaVyC
set_option linter.unusedVariables false
set_option linter.unusedSimpArgs false
namespace Go.Vc

def HLe (H H' : HF) : Prop := ∀ l h, H l = some h → H' l = some h

mutual
theorem SimV.ext {H H' : HF} (hl : HLe H H') : ∀ {x : TV} {y : AVal}, SimV H x y → SimV H' x y
  | .junk, _, _ => by simp [SimV]
  | .tt, _, h => by simpa [SimV] using h
  | .ff, _, h => by simpa [SimV] using h
  | .bb _, _, h => by simpa [SimV] using h
  | .pr _, _, h => by simpa [SimV] using h
  | .gd _, _, h => by simpa [SimV] using h
  | .int _ _, _, h => by simpa [SimV] using h
  | .byte _, _, h => by simpa [SimV] using h
  | .str _, _, h => by simpa [SimV] using h
  | .nilp, _, h => by simpa [SimV] using h
  | .nilf, _, h => by simpa [SimV] using h
  | .nilm, _, h => by simpa [SimV] using h
  | .nili, _, h => by simpa [SimV] using h
  | .cst _, _, h => by simpa [SimV] using h
  | .nils, _, h => by simpa [SimV] using h
  | .ros _ _, _, h => by simpa [SimV] using h
  | .ptr l off, _, h => by
    simp only [SimV] at *
    obtain ⟨h, p, v, h1, h2⟩ := h
    exact ⟨h, p, v, hl _ _ h1, h2⟩
  | .eptr l i fo, _, h => by
    simp only [SimV] at *
    obtain ⟨h, p, v, h1, h2⟩ := h
    exact ⟨h, p, v, hl _ _ h1, h2⟩
  | .inn l i, _, h => by
    simp only [SimV] at *
    obtain ⟨h, q, h1, h2⟩ := h
    exact ⟨h, q, hl _ _ h1, h2⟩
  | .ieptr l i j k fo, _, h => by
    simp only [SimV] at *
    obtain ⟨h, p, v, n, h1, h2⟩ := h
    exact ⟨h, p, v, n, hl _ _ h1, h2⟩
  | .slf l, _, h => by
    simp only [SimV] at *
    obtain ⟨h, h1, h2⟩ := h
    exact ⟨h, hl _ _ h1, h2⟩
  | .sl l _ _, _, h => by
    simp only [SimV] at *
    obtain ⟨h, h1, h2⟩ := h
    exact ⟨h, hl _ _ h1, h2⟩
  | .ifs _ l, _, h => by
    simp only [SimV] at *
    obtain ⟨h, h1, h2⟩ := h
    exact ⟨h, hl _ _ h1, h2⟩
  | .rop cs, _, h => by
    simp only [SimV] at *
    obtain ⟨xs, h1, h2⟩ := h
    exact ⟨xs, h1, SimL.ext hl h2⟩
  | .agg cs, _, h => by
    simp only [SimV] at *
    obtain ⟨xs, h1, h2⟩ := h
    exact ⟨xs, h1, SimL.ext hl h2⟩
  | .tup cs, _, h => by
    simp only [SimV] at *
    obtain ⟨xs, h1, h2⟩ := h
    exact ⟨xs, h1, SimL.ext hl h2⟩
  | .fn f cs, _, h => by
    simp only [SimV] at *
    obtain ⟨xs, h1, h2⟩ := h
    exact ⟨xs, h1, SimL.ext hl h2⟩
theorem SimL.ext {H H' : HF} (hl : HLe H H') : ∀ {x : List TV} {y : List AVal}, SimL H x y → SimL H' x y
  | [], _, h => by simpa [SimL] using h
  | x :: xs, _, h => by
    simp only [SimL] at *
    obtain ⟨y, zs, h1, h2, h3⟩ := h
    exact ⟨y, zs, h1, SimV.ext hl h2, SimL.ext hl h3⟩
end

theorem SimF.ext {H H' : HF} {F : RF} {A : Frame} (h : SimF H F A) (hl : HLe H H') : SimF H' F A := fun s gs P x hx =>
  let e := h s gs P x hx
  ⟨fun q => (e.on q).ext hl, e.off, e.iff⟩

inductive SimG (H : HF) : List RF → List Frame → Prop
  | nil : SimG H [] []
  | cons {F : RF} {A : Frame} {G : List RF} {AG : List Frame} (h : SimF H F A) (hs : SimG H G AG) : SimG H (F :: G) (A :: AG)
theorem SimG.ext {H H' : HF} {G : List RF} {AG : List Frame} (h : SimG H G AG) (hl : HLe H H') : SimG H' G AG := by
  induction h with
  | nil => exact .nil
  | cons h _ ih => exact .cons (h.ext hl) ih

theorem objAt_eq : ∀ (TS : List TOb) (l : Nat), objAt TS l = TS[l]?
  | [], l => by simp [objAt]
  | o :: TS, 0 => by simp [objAt]
  | o :: TS, l + 1 => by simp [objAt, objAt_eq TS l]
theorem setOb_eq : ∀ (TS : List TOb) (l : Nat) (o : TOb), setOb TS l o = TS.set l o
  | [], l, o => by simp [setOb]
  | a :: TS, 0, o => by simp [setOb]
  | a :: TS, l + 1, o => by simp [setOb, setOb_eq TS l o]
theorem lenT_eq : ∀ (TS : List TOb), lenT TS = TS.length
  | [] => rfl
  | _ :: TS => by simp [lenT, lenT_eq TS]
theorem pushO_eq : ∀ (TS : List TOb) (o : TOb), pushO TS o = TS ++ [o]
  | [], o => rfl
  | a :: TS, o => by simp [pushO, pushO_eq TS o]
theorem pushL_eq : ∀ (TS S : List TOb), pushL TS S = TS ++ S
  | [], S => rfl
  | a :: TS, S => by simp [pushL, pushL_eq TS S]

def RowAt (S : Store) (t : Ty) (ls : List (T t)) : Option (Nat × Nat) → Prop
  | none => ls = []
  | some (p, v) => S[p]? = some (.row v (szT t) (ls.flatMap (encT t)))

def subA (q : Option (Nat × Nat) × Nat) : AVal := slA q.1 0 q.2
structure SubsAt (S : Store) (t : Ty) (ls : List (List (T t))) (sub : List (Option (Nat × Nat) × Nat)) : Prop where
  len : sub.length = ls.length
  at_ : ∀ (i : Nat) l q, ls[i]? = some l → sub[i]? = some q → q.2 = l.length ∧ RowAt S t l q.1
def ObS (H : HF) (S : Store) (l : Nat) : TOb → Prop
  | .dead => H l = none
  | .cells k cs => ∃ p v xs, H l = some ⟨some (p, v), k, cs.length, []⟩ ∧ S[p]? = some (.row v k xs) ∧ SimL H cs xs
  | .row t ls => ∃ loc, H l = some ⟨loc, szT t, ls.length, []⟩ ∧ RowAt S t ls loc
  | .drow t ls => ∃ p v sub, H l = some ⟨some (p, v), 1, ls.length, sub⟩ ∧ S[p]? = some (.row v 1 (sub.map subA)) ∧ SubsAt S t ls sub

structure St3 (H : HF) (TS : List TOb) (S : Store) : Prop where
  ob : ∀ (l : Nat) o, TS[l]? = some o → ObS H S l o
  out : ∀ l, TS.length ≤ l → H l = none
  inj : ∀ l l' h h' p v v', H l = some h → H l' = some h' → h.loc = some (p, v) → h'.loc = some (p, v') → l = l'
  sub : ∀ (l i : Nat) (h : Hd) (p v n : Nat), H l = some h → h.sub[i]? = some (some (p, v), n) → p < S.length ∧ (∀ l' h' v', H l' = some h' → h'.loc ≠ some (p, v')) ∧
    (∀ (l' i' : Nat) (h' : Hd) (v' n' : Nat), H l' = some h' → h'.sub[i']? = some (some (p, v'), n') → l' = l ∧ i' = i)

theorem St3.lt {H : HF} {TS : List TOb} {S : Store} (st : St3 H TS S) {l : Nat} {h : Hd} {p v : Nat} (hl : H l = some h) (hp : h.loc = some (p, v)) : p < S.length := by
  have hlt : l < TS.length := by
    rcases Nat.lt_or_ge l TS.length with q | q
    · exact q
    · rw [st.out l q] at hl; cases hl
  have := st.ob l _ (List.getElem?_eq_getElem hlt)
  generalize TS[l] = o at this
  cases o with
  | dead => simp only [ObS] at this; rw [this] at hl; cases hl
  | cells k cs =>
    obtain ⟨p', v', xs, h1, h2, _⟩ := this
    rw [h1] at hl; cases hl; cases hp
    exact (List.getElem?_eq_some_iff.1 h2).1
  | row t ls =>
    obtain ⟨loc, h1, h2⟩ := this
    rw [h1] at hl; cases hl
    simp only at hp; subst hp
    exact (List.getElem?_eq_some_iff.1 h2).1
  | drow t ls =>
    obtain ⟨p', v', sub, h1, h2, _⟩ := this
    rw [h1] at hl; cases hl; cases hp
    exact (List.getElem?_eq_some_iff.1 h2).1

theorem SubsAt.ext {S S' : Store} {t : Ty} {ls : List (List (T t))} {sub : List (Option (Nat × Nat) × Nat)} (h : SubsAt S t ls sub) (hS : ∀ (p : Nat) x, (∃ (i v n : Nat), sub[i]? = some (some (p, v), n)) → S[p]? = some x → S'[p]? = some x) : SubsAt S' t ls sub :=
  ⟨h.len, fun i l q h1 h2 => by
    obtain ⟨g1, g2⟩ := h.at_ i l q h1 h2
    refine ⟨g1, ?_⟩
    obtain ⟨loc, n⟩ := q
    cases loc with
    | none => exact g2
    | some pv => exact hS _ _ ⟨i, pv.2, n, h2⟩ g2⟩

theorem ObS.ext {H H' : HF} {S S' : Store} {l : Nat} {o : TOb} (h : ObS H S l o) (hl : HLe H H') (hS : ∀ (p : Nat) x, S[p]? = some x → S'[p]? = some x) (hd : H l = none → H' l = none) : ObS H' S' l o := by
  cases o with
  | dead => exact hd h
  | cells k cs =>
    obtain ⟨p, v, xs, h1, h2, h3⟩ := h
    exact ⟨p, v, xs, hl _ _ h1, hS _ _ h2, h3.ext hl⟩
  | row t ls =>
    obtain ⟨loc, h1, h2⟩ := h
    refine ⟨loc, hl _ _ h1, ?_⟩
    cases loc with
    | none => exact h2
    | some q => exact hS _ _ h2
  | drow t ls =>
    obtain ⟨p, v, sub, h1, h2, h3⟩ := h
    exact ⟨p, v, sub, hl _ _ h1, hS _ _ h2, h3.ext fun p x _ hp => hS p x hp⟩

theorem St3.nil {S : Store} : St3 (fun _ => none) [] S := ⟨fun l o h => by simp at h, fun _ _ => rfl, fun l l' h h' p v v' e => (by cases e), fun l i h p v n e => (by cases e)⟩

/-- A new object. -/
theorem St3.push {H : HF} {TS : List TOb} {S S' : Store} (st : St3 H TS S) {o : TOb} {hd : Hd} (ho : ∀ H', HLe H H' → H' TS.length = some hd → ObS H' S' TS.length o) (hS : ∀ (p : Nat) x, S[p]? = some x → S'[p]? = some x)
    (hn : ∀ p v, hd.loc = some (p, v) → S.length ≤ p) (hsub : ∀ q ∈ hd.sub, q.1 = none := by simp) : ∃ H', HLe H H' ∧ St3 H' (TS ++ [o]) S' ∧ H' TS.length = some hd := by
  have hl : HLe H (fun l => if l = TS.length then some hd else H l) := fun l h e => by
    have : l ≠ TS.length := fun q => by rw [q, st.out _ (Nat.le_refl _)] at e; cases e
    simp [this, e]
  refine ⟨fun l => if l = TS.length then some hd else H l, hl, ⟨fun l o' h => ?_, fun l h => ?_, fun l l' h h' p v v' e1 e2 e3 e4 => ?_, fun l i h p v n e1 e2 => ?_⟩, by simp⟩
  · rcases Nat.lt_or_ge l TS.length with q | q
    · rw [List.getElem?_append_left q] at h
      exact (st.ob l o' h).ext hl hS fun e => by simp [e]; omega
    · rw [List.getElem?_append_right q] at h
      have : l = TS.length := by
        rcases Nat.lt_or_ge (l - TS.length) 1 with q | q
        · omega
        · rw [List.getElem?_eq_none (by simpa using q)] at h; cases h
      subst this
      simp at h
      subst h
      exact ho _ hl (by simp)
  · simp at h
    rw [if_neg (by omega)]
    exact st.out l (by omega)
  · split at e1 <;> split at e2
    · rename_i a b; rw [a, b]
    · cases e1
      have := hn _ _ e3
      have := st.lt e2 e4
      omega
    · cases e2
      have := hn _ _ e4
      have := st.lt e1 e3
      omega
    · exact st.inj _ _ _ _ _ _ _ e1 e2 e3 e4
  · have no : ∀ (i : Nat) (p v n : Nat), ¬ hd.sub[i]? = some (some (p, v), n) := fun i p v n e => by
      have := hsub _ (List.mem_of_getElem? e)
      cases this
    split at e1
    · cases e1; exact absurd e2 (no _ _ _ _)
    · obtain ⟨g1, g2, g3⟩ := st.sub l i h p v n e1 e2
      refine ⟨?_, fun l' h' v' q1 q2 => ?_, fun l' i' h' v' n' q1 q2 => ?_⟩
      · exact (List.getElem?_eq_some_iff.1 (hS p _ (List.getElem?_eq_getElem g1))).1
      · split at q1
        · cases q1; have := hn _ _ q2; omega
        · exact g2 _ _ _ q1 q2
      · split at q1
        · cases q1; exact absurd q2 (no _ _ _ _)
        · exact g3 _ _ _ _ _ q1 q2

theorem get_push {S : Store} {o : Ob} : ∀ (p : Nat) x, S[p]? = some x → (S ++ [o])[p]? = some x := fun p x h => by
  rw [List.getElem?_append_left (List.getElem?_eq_some_iff.1 h).1]; exact h

theorem St3.pushRow {H : HF} {TS : List TOb} {S : Store} (st : St3 H TS S) (t : Ty) (ls : List (T t)) (v : Nat) :
    ∃ H', HLe H H' ∧ St3 H' (TS ++ [.row t ls]) (S ++ [.row v (szT t) (ls.flatMap (encT t))]) ∧ H' TS.length = some ⟨some (S.length, v), szT t, ls.length, []⟩ :=
  st.push (fun H' _ h => ⟨_, h, by simp [RowAt]⟩) get_push (fun p v' e => by cases e; exact Nat.le_refl _)
theorem St3.pushNil {H : HF} {TS : List TOb} {S : Store} (st : St3 H TS S) (t : Ty) :
    ∃ H', HLe H H' ∧ St3 H' (TS ++ [.row t []]) S ∧ H' TS.length = some ⟨none, szT t, 0, []⟩ :=
  st.push (fun H' _ h => ⟨_, h, by simp [RowAt]⟩) (fun _ _ h => h) (fun p v' e => by cases e)
theorem St3.pushCells {H : HF} {TS : List TOb} {S : Store} (st : St3 H TS S) (k : Nat) {cs : List TV} {xs : List AVal} (hs : SimL H cs xs) (v : Nat) :
    ∃ H', HLe H H' ∧ St3 H' (TS ++ [.cells k cs]) (S ++ [.row v k xs]) ∧ H' TS.length = some ⟨some (S.length, v), k, cs.length, []⟩ :=
  st.push (fun H' hl h => ⟨_, _, _, h, by simp, hs.ext hl⟩) get_push (fun p v' e => by cases e; exact Nat.le_refl _)

theorem St3.pushDeep {H : HF} {TS : List TOb} {S : Store} (st : St3 H TS S) (t : Ty) (n v : Nat) :
    ∃ H', HLe H H' ∧ St3 H' (TS ++ [.drow t (List.replicate n [])]) (S ++ [.row v 1 (List.replicate n .nils)]) ∧ H' TS.length = some ⟨some (S.length, v), 1, n, List.replicate n (none, 0)⟩ :=
  st.push (fun H' _ h => ⟨_, v, List.replicate n (none, 0), by simpa using h, by simp [subA, slA], by simp, fun i l q h1 h2 => by
    rw [List.getElem?_replicate] at h1 h2
    split at h1 <;> cases h1
    split at h2
    · cases h2; exact ⟨rfl, rfl⟩
    · omega⟩) get_push (fun p v' e => by cases e; exact Nat.le_refl _) fun q hq => by rw [(List.mem_replicate.1 hq).2]

/-! ### What a contract says of its answer -/
def hdR : (r : RTy) → (rs : List RTy) → RTs (r :: rs) → RT r
  | _, [], x => x
  | _, _ :: _, x => x.1
def tlR : (r : RTy) → (rs : List RTy) → RTs (r :: rs) → RTs rs
  | _, [], _ => ()
  | _, _ :: _, x => x.2

def resA : (rs : List RTy) → RTs rs → Nat → List AVal → Store → Prop
  | [], _, _, ys, S => ys = [] ∧ S = []
  | .val t :: rs, x, n, ys, S => ∃ ys', ys = encA t (hdR (.val t) rs x) :: ys' ∧ resA rs (tlR (.val t) rs x) n ys' S
  | .own t :: rs, x, n, ys, S => (∃ v ys' S', ys = .sl n v 0 (hdR (.own t) rs x).length :: ys' ∧ S = .row v (szT t) ((hdR (.own t) rs x).flatMap (encT t)) :: S' ∧ resA rs (tlR (.own t) rs x) (n + 1) ys' S') ∨
      (hdR (.own t) rs x = [] ∧ ∃ ys', ys = .nils :: ys' ∧ resA rs (tlR (.own t) rs x) n ys' S)
def retA (xs : List AVal) : AVal := match xs with | [x] => x | xs => .tup xs
def resR (rs : List RTy) (x : RTs rs) (r : AVal) (S : Store) : Prop := ∃ ys, resA rs x 0 ys S ∧ r = retA ys

def Con (P : Program) (f : FuncId) (ct : Ct) : Prop := callable P f = true ∧ ∀ x : Ts ct.args, ct.pre x → ACalls P f (encAs ct.args x) [] (resR ct.res (ct.fn x))
def Cons (P : Program) : List (Nat × Ct) → Prop
  | [] => True
  | (f, ct) :: L => Con P f ct ∧ Cons P L
theorem Cons.look {P : Program} : ∀ {L : List (Nat × Ct)} {f : Nat} {ct : Ct}, Cons P L → lookN L f = some ct → Con P f ct
  | [], _, _, _, h => by simp [lookN] at h
  | (g, c) :: L, f, ct, hc, h => by
    simp only [lookN] at h
    split at h
    · rename_i hb; cases h; rw [← beq_eq hb]; exact hc.1
    · exact Cons.look hc.2 h

theorem resTV_val (t : Ty) : ∀ (rs : List RTy) (x : RTs (.val t :: rs)) (n : Nat), resTV (.val t :: rs) x n = (tvA t (hdR (.val t) rs x) :: (resTV rs (tlR (.val t) rs x) n).1, (resTV rs (tlR (.val t) rs x) n).2)
  | [], x, n => rfl
  | _ :: _, x, n => rfl
theorem resTV_own (t : Ty) : ∀ (rs : List RTy) (x : RTs (.own t :: rs)) (n : Nat), resTV (.own t :: rs) x n = (.slf n :: (resTV rs (tlR (.own t) rs x) (n + 1)).1, .row t (hdR (.own t) rs x) :: (resTV rs (tlR (.own t) rs x) (n + 1)).2)
  | [], x, n => rfl
  | _ :: _, x, n => rfl

/-- The answer's rows, behind a store. -/
theorem res_push : ∀ (rs : List RTy) (x : RTs rs) {H : HF} {TS : List TOb} {S S' : Store} {ys : List AVal}, St3 H TS S → resA rs x S.length ys S' →
    ∃ H', HLe H H' ∧ St3 H' (TS ++ (resTV rs x TS.length).2) (S ++ S') ∧ SimL H' (resTV rs x TS.length).1 ys
  | [], _, H, TS, S, S', ys, st, h => by
    simp only [resA] at h
    obtain ⟨rfl, rfl⟩ := h
    exact ⟨H, fun _ _ h => h, by simpa [resTV] using st, by simp [resTV, SimL]⟩
  | .val t :: rs, x, H, TS, S, S', ys, st, h => by
    simp only [resA] at h
    obtain ⟨ys', rfl, h⟩ := h
    obtain ⟨H', g1, g2, g3⟩ := res_push rs _ st h
    rw [resTV_val]
    exact ⟨H', g1, g2, by simp only [SimL]; exact ⟨_, _, rfl, tvA_sim _ _, g3⟩⟩
  | .own t :: rs, x, H, TS, S, S', ys, st, h => by
    simp only [resA] at h
    rw [resTV_own]
    rcases h with ⟨v, ys', S1, rfl, rfl, h⟩ | ⟨h0, ys', rfl, h⟩
    · obtain ⟨H1, p1, p2, p3⟩ := st.pushRow t (hdR (.own t) rs x) v
      obtain ⟨H', g1, g2, g3⟩ := res_push rs _ p2 (by simpa using h)
      simp only [List.length_append, List.length_singleton] at g2 g3
      refine ⟨H', fun l h e => g1 _ _ (p1 _ _ e), by simpa using g2, ?_⟩
      simp only [SimL, SimV]
      exact ⟨_, _, rfl, ⟨_, g1 _ _ p3, rfl⟩, g3⟩
    · obtain ⟨H1, p1, p2, p3⟩ := st.pushNil t
      obtain ⟨H', g1, g2, g3⟩ := res_push rs _ p2 h
      simp only [List.length_append, List.length_singleton] at g2 g3
      refine ⟨H', fun l h e => g1 _ _ (p1 _ _ e), by rw [h0]; simpa using g2, ?_⟩
      simp only [SimL, SimV]
      exact ⟨_, _, rfl, ⟨_, g1 _ _ p3, rfl⟩, g3⟩

def shA (n : Nat) : AVal → AVal
  | .sl l v o k => .sl (l + n) v o k
  | x => x
theorem encA_sh (n : Nat) : ∀ (t : Ty) (x : T t), shA n (encA t x) = encA t x
  | .int _, _ => rfl
  | .str, _ => rfl
  | .bool, _ => rfl
  | .st _, _ => rfl
  | .sl _, _ => rfl
theorem resA_sh (m : Nat) : ∀ (rs : List RTy) (x : RTs rs) (n : Nat) {ys : List AVal} {S : Store}, resA rs x n ys S → resA rs x (n + m) (ys.map (shA m)) S
  | [], _, n, ys, S, h => by
    simp only [resA] at *
    obtain ⟨rfl, rfl⟩ := h
    simp
  | .val t :: rs, x, n, ys, S, h => by
    simp only [resA] at *
    obtain ⟨ys', rfl, h⟩ := h
    exact ⟨_, by simp [encA_sh], resA_sh m rs _ n h⟩
  | .own t :: rs, x, n, ys, S, h => by
    simp only [resA] at *
    rcases h with ⟨v, ys', S1, rfl, rfl, h⟩ | ⟨h0, ys', rfl, h⟩
    · refine .inl ⟨v, ys'.map (shA m), S1, rfl, rfl, ?_⟩
      have := resA_sh m rs _ (n + 1) h
      rwa [show n + 1 + m = n + m + 1 by omega] at this
    · exact .inr ⟨h0, ys'.map (shA m), rfl, resA_sh m rs _ n h⟩
theorem sh_le (m : Nat) (x : AVal) : LeV x (shA m x) := by
  cases x <;> first | exact .sl | exact .refl _
theorem sh_leL (m : Nat) : ∀ xs : List AVal, LeL xs (xs.map (shA m))
  | [] => .nil
  | x :: xs => .cons (sh_le m x) (sh_leL m xs)
theorem ret_le (m : Nat) : ∀ xs : List AVal, LeV (retA xs) (retA (xs.map (shA m)))
  | [] => .tup .nil
  | [x] => sh_le m x
  | x :: y :: xs => .tup (sh_leL m (x :: y :: xs))

/-! ### Plain values: nothing of memory but rows of one's own -/
mutual
def plain : AVal → Bool
  | .ros n _ => Nat.beq n 0
  | .rop _ => false
  | .agg cs => plainL cs
  | .tup cs => plainL cs
  | .fn _ xs ys => plainL xs && plainL ys
  | .iface _ x => plain x
  | _ => true
def plainL : List AVal → Bool
  | [] => true
  | x :: xs => plain x && plainL xs
end
mutual
theorem plain_rel {E E' : Env} {fz fz' : Nat → Prop} {w w' : World} (hE : ∀ v x, E v = some x → E' v = some x) : ∀ (x : AVal) (v : Value), plain x = true → Rel E fz w x v → Rel E' fz' w' x v
  | .agg cs, v, h, hr => by
    simp only [Rel] at *
    obtain ⟨vs, h1, h2, h3⟩ := hr
    exact ⟨vs, h1, plainL_rel hE cs vs (by simpa [plain] using h) h2, h3⟩
  | .tup cs, v, h, hr => by
    simp only [Rel] at *
    obtain ⟨vs, h1, h2⟩ := hr
    exact ⟨vs, h1, plainL_rel hE cs vs (by simpa [plain] using h) h2⟩
  | .fn f xs ys, v, h, hr => by
    simp only [Rel] at *
    obtain ⟨vs, us, h1, h2, h3⟩ := hr
    simp only [plain, Bool.and_eq_true] at h
    exact ⟨vs, us, h1, plainL_rel hE xs vs h.1 h2, plainL_rel hE ys us h.2 h3⟩
  | .iface t x, v, h, hr => by
    simp only [Rel] at *
    obtain ⟨u, h1, h2⟩ := hr
    exact ⟨u, h1, plain_rel hE x u (by simpa [plain] using h) h2⟩
  | .ros n cs, v, h, hr => by
    have hn : n = 0 := by simpa [plain] using h
    subst hn
    simp only [Rel] at *
    rcases hr with hr | ⟨b, off, c, g1, g2, g3, g4⟩
    · exact .inl hr
    · exact .inl ⟨trivial, _, _, g3⟩
  | .rop _, _, h, _ => by simp [plain] at h
  | .ptr _ _ _, _, _, hr => by
    simp only [Rel] at *
    obtain ⟨b, base, cap, k, h1, h2⟩ := hr
    exact ⟨b, base, cap, k, hE _ _ h1, h2⟩
  | .sl _ _ _ _, _, _, hr => by
    simp only [Rel] at *
    rcases hr with h | ⟨b, base, cap, k, c, h1, h2⟩
    · exact .inl h
    · exact .inr ⟨b, base, cap, k, c, hE _ _ h1, h2⟩
  | .map _ _, _, _, hr => by
    simp only [Rel] at *
    obtain ⟨b, h1, h2⟩ := hr
    exact ⟨b, hE _ _ h1, h2⟩
  | .int _ _, _, _, hr => by simpa [Rel] using hr
  | .str _, _, _, hr => by simpa [Rel] using hr
  | .bool _, _, _, hr => by simpa [Rel] using hr
  | .tt, _, _, hr => by simpa [Rel] using hr
  | .ff, _, _, hr => by simpa [Rel] using hr
  | .junk, _, _, hr => by simp [Rel]
  | .nilp, _, _, hr => by simpa [Rel] using hr
  | .nils, _, _, hr => by simpa [Rel] using hr
  | .nilf, _, _, hr => by simpa [Rel] using hr
  | .nilm, _, _, hr => by simpa [Rel] using hr
  | .nili, _, _, hr => by simpa [Rel] using hr
  | .cst _, _, _, hr => by simpa [Rel] using hr
theorem plainL_rel {E E' : Env} {fz fz' : Nat → Prop} {w w' : World} (hE : ∀ v x, E v = some x → E' v = some x) : ∀ (xs : List AVal) (vs : List Value), plainL xs = true → RelL E fz w xs vs → RelL E' fz' w' xs vs
  | [], _, _, hr => by simpa [RelL] using hr
  | x :: xs, _, h, hr => by
    simp only [RelL] at *
    obtain ⟨v, us, h0, h1, h2⟩ := hr
    simp only [plainL, Bool.and_eq_true] at h
    exact ⟨v, us, h0, plain_rel hE x v h.1 h1, plainL_rel hE xs us h.2 h2⟩
end
theorem plainL_mem : ∀ {xs : List AVal}, plainL xs = true → ∀ x ∈ xs, plain x = true
  | [], _, x, h => by cases h
  | y :: ys, hp, x, h => by
    simp only [plainL, Bool.and_eq_true] at hp
    rcases List.mem_cons.1 h with rfl | h
    · exact hp.1
    · exact plainL_mem hp.2 x h
theorem plainL_append : ∀ {xs ys : List AVal}, plainL xs = true → plainL ys = true → plainL (xs ++ ys) = true
  | [], _, _, h => h
  | x :: xs, ys, h, h' => by
    simp only [plainL, Bool.and_eq_true, List.cons_append] at *
    exact ⟨h.1, plainL_append h.2 h'⟩
def plainO : Ob → Prop
  | .row _ _ cs => plainL cs = true
  | .dead => True
  | .mapo _ _ => False
  | .loopo _ _ _ => False
  | .itero _ _ _ _ _ => False

mutual
theorem flat_plain : ∀ (t : Ty) (x : T t), flatT t = true → plainL (encT t x) = true
  | .int _, _, _ => rfl
  | .str, _, _ => rfl
  | .bool, _, _ => rfl
  | .st fs, x, h => by simp only [flatT] at h; simp only [encT]; exact flats_plain fs x h
  | .sl _, _, h => by simp [flatT] at h
theorem flats_plain : ∀ (ts : Tys) (x : Ts ts), flatTs ts = true → plainL (encTs ts x) = true
  | .nil, _, _ => rfl
  | .cons t .nil, x, h => by
    simp only [flatTs, Bool.and_eq_true] at h
    simp only [encTs]; exact flat_plain t x h.1
  | .cons t (.cons u ts), (x, y), h => by
    rw [flatTs, Bool.and_eq_true] at h
    simp only [encTs]
    exact plainL_append (flat_plain t x h.1) (flats_plain (.cons u ts) y h.2)
end
theorem flat_plainA : ∀ (t : Ty) (x : T t), flatT t = true → plain (encA t x) = true
  | .int _, _, _ => rfl
  | .str, _, _ => rfl
  | .bool, _, _ => rfl
  | .st fs, x, h => by simp only [flatT] at h; simp only [encA, plain]; exact flats_plain fs x h
  | .sl _, _, h => by simp [flatT] at h
theorem flat_rows {t : Ty} (h : flatT t = true) : ∀ ls : List (T t), plainL (ls.flatMap (encT t)) = true
  | [] => rfl
  | x :: ls => by rw [List.flatMap_cons]; exact plainL_append (flat_plain t x h) (flat_rows h ls)
theorem res_plain : ∀ (rs : List RTy) (x : RTs rs) (n : Nat) {ys : List AVal} {S : Store}, flatR rs = true → resA rs x n ys S → plainL ys = true ∧ ∀ o ∈ S, plainO o
  | [], _, n, ys, S, _, h => by
    simp only [resA] at h
    obtain ⟨rfl, rfl⟩ := h
    exact ⟨rfl, by simp⟩
  | .val t :: rs, x, n, ys, S, hf, h => by
    simp only [resA] at h
    obtain ⟨ys', rfl, h⟩ := h
    simp only [flatR, Bool.and_eq_true] at hf
    obtain ⟨g1, g2⟩ := res_plain rs _ n hf.2 h
    exact ⟨by simp [plainL, flat_plainA t _ hf.1, g1], g2⟩
  | .own t :: rs, x, n, ys, S, hf, h => by
    simp only [resA] at h
    simp only [flatR, Bool.and_eq_true] at hf
    rcases h with ⟨v, ys', S1, rfl, rfl, h⟩ | ⟨h0, ys', rfl, h⟩
    · obtain ⟨g1, g2⟩ := res_plain rs _ _ hf.2 h
      refine ⟨by simp [plainL, plain, g1], fun o ho => ?_⟩
      rcases List.mem_cons.1 ho with rfl | ho
      · exact flat_rows hf.1 _
      · exact g2 o ho
    · obtain ⟨g1, g2⟩ := res_plain rs _ _ hf.2 h
      exact ⟨by simp [plainL, plain, g1], g2⟩

section
variable {P : Program} {f : FuncId}

/-- What is owned is lent to a function that only reads; what it makes is plain. -/
theorem ACalls.lendR {S : Store} {args args' : List AVal} {R K : AVal → Store → Prop} (h : ACalls P f args' [] R)
    (hargs : ∀ E fz w vals, St E fz S w → RelL E fz w args vals → RelL E (frozen E fz S) w args' vals)
    (hK : ∀ r S', R r S' → ∃ r', LeV r r' ∧ plain r' = true ∧ (∀ o ∈ S', plainO o) ∧ K r' (S ++ S')) : ACalls P f args S K := by
  refine ⟨fun E fz w vals st hrel => ?_⟩
  have no : ∀ b, ¬ Own E [] b := fun b ⟨l, o, h, _⟩ => by simp at h
  refine (h.out E _ w vals st.freeze (hargs E fz w vals st hrel)).mono fun e w' ⟨r, S', v, E', fz', h1, h2, h3, h4, h5⟩ => ?_
  obtain ⟨r', g1, g2, g3, g4⟩ := hK r S' h5
  have hh : ∀ b, b < w.heap.size → w'.heap[b]? = w.heap[b]? := fun b hb => h2.keep b hb (no b)
  have nf : ∀ b, fz b → ¬ Own E S b := fun b hb ⟨l, ho⟩ => (st.own_lt ho).2 hb
  have new : ∀ l b, OwnAt E' S' l b → w.heap.size ≤ b := fun l b ho => by
    rcases h2.own b ⟨_, ho⟩ with q | q
    · exact absurd q (no b)
    · exact q
  have split : ∀ l b, OwnAt E' (S ++ S') l b → (l < S.length ∧ OwnAt E S l b) ∨ (S.length ≤ l ∧ OwnAt E' S' (l - S.length) b) := fun l b ⟨o, q1, q2⟩ => by
    by_cases hl : l < S.length
    · rw [List.getElem?_append_left hl] at q1
      exact .inl ⟨hl, o, q1, by rw [← (st.ok l o q1).block h2.env]; exact q2⟩
    · rw [List.getElem?_append_right (by omega)] at q1
      exact .inr ⟨by omega, o, q1, q2⟩
  refine ⟨r', S ++ S', v, E', fun b => fz' b ∧ ¬ Own E S b, h1, ⟨h2.env, fun b hb => ⟨h2.frz b (.inl hb), nf b hb⟩, fun b ⟨hb, hn⟩ => ?_, fun b hb _ => hh b hb, fun b ⟨l, ho⟩ => ?_, h2.size, h2.os, h2.output, h2.tape⟩,
    ⟨fun l o hl => ?_, fun l l' b q1 q2 => ?_, fun b hb => h3.fzlt b hb.1, h3.fresh⟩, plain_rel (fun _ _ h => h) r' v g2 (g1 _ _ _ _ h4), g4⟩
  · rcases h2.fznew b hb with (q | q) | q | q
    · exact .inl q
    · exact absurd q hn
    · exact absurd q (no b)
    · exact .inr (.inr q)
  · rcases split l b ho with ⟨_, q⟩ | ⟨_, q⟩
    · exact .inl ⟨l, q⟩
    · exact .inr (new _ _ q)
  · by_cases hlt : l < S.length
    · rw [List.getElem?_append_left hlt] at hl
      exact (st.ok l o hl).mono h2.env (fun b hb => ⟨h2.frz b (.inl hb), nf b hb⟩) (fun b hb => hh b (st.fzlt b hb)) fun b hb => ⟨hh b (st.own_lt ⟨o, hl, hb⟩).1, fun q => q.2 ⟨l, o, hl, hb⟩⟩
    · rw [List.getElem?_append_right (by omega)] at hl
      have ok := h3.ok _ _ hl
      have pl := g3 o (List.mem_of_getElem? hl)
      cases o with
      | dead => trivial
      | mapo v es => exact pl.elim
      | loopo b L F => exact pl.elim
      | itero v mv since last seen => exact pl.elim
      | row v k cs =>
        rcases ok with ⟨q1, q2⟩ | ⟨b, base, cap, arr, T, lo, hi, q1, q2, q3, q4, q5, q6, q7⟩
        · exact .inl ⟨q1, q2⟩
        · refine .inr ⟨b, base, cap, arr, T, lo, hi, q1, q2, q3, q4, q5, RelC.mk fun i x hx => ?_, fun hf => q7 hf.1⟩
          obtain ⟨c, c1, c2, c3⟩ := q6.get hx
          exact ⟨c, c1, c2, plain_rel (fun _ _ h => h) x c (plainL_mem pl x (List.mem_of_getElem? hx)) c3⟩
  · rcases split l b q1 with ⟨a1, a2⟩ | ⟨a1, a2⟩ <;> rcases split l' b q2 with ⟨b1, b2⟩ | ⟨b1, b2⟩
    · exact st.sep _ _ _ a2 b2
    · have := (st.own_lt a2).1; have := new _ _ b2; omega
    · have := (st.own_lt b2).1; have := new _ _ a2; omega
    · have := h3.sep _ _ _ a2 b2; omega

end
end Go.Vc
