/-
  The operations that change the store.
-/
import Derived.Test.YtmknkkafindicaaVyG
set_option linter.unusedVariables false
set_option linter.unusedSimpArgs false
namespace Go.Vc

theorem wSet_iff' {S : Store} {l : Nat} {o : Ob} {K : Store → Prop} (h : l < S.length) (hk : K (S.set l o)) : wSet S l o K := wSet_iff.2 ⟨h, hk⟩

/-! ### Cells within cells -/
theorem over_append : ∀ (a rest ys : List AVal), ys.length ≤ a.length → over (a ++ rest) ys = over a ys ++ rest
  | [], rest, ys, h => by
    have : ys = [] := List.length_eq_zero_iff.1 (by simpa using h)
    subst this
    cases rest <;> rfl
  | x :: a, rest, [], h => rfl
  | x :: a, rest, y :: ys, h => by
    simp only [List.cons_append, over]
    rw [over_append a rest ys (by simpa using h)]
theorem setCells_all {xs ys : List AVal} (h : ys.length = xs.length) : setCells xs 0 ys = ys := by
  have e : ∀ (xs ys : List AVal), ys.length = xs.length → over xs ys = ys := by
    intro xs
    induction xs with
    | nil => intro ys h; cases ys with | nil => rfl | cons => simp at h
    | cons x xs ih => intro ys h; cases ys with | nil => simp at h | cons y ys => simp only [over]; rw [ih ys (by simpa using h)]
  cases xs with
  | nil => cases ys with | nil => rfl | cons => simp at h
  | cons x xs => exact e _ _ h
theorem setCells_append : ∀ (a : List AVal) (n : Nat) (rest ys : List AVal), n + ys.length ≤ a.length → setCells (a ++ rest) n ys = setCells a n ys ++ rest
  | a, 0, rest, ys, h => by
    have e1 : ∀ b, setCells b 0 ys = over b ys := fun b => by cases b <;> rfl
    rw [e1, e1, over_append a rest ys (by omega)]
  | [], n + 1, rest, ys, h => by simp at h
  | x :: a, n + 1, rest, ys, h => by
    simp only [List.cons_append, setCells]
    rw [setCells_append a n rest ys (by simp at h; omega)]
theorem setCells_skip : ∀ (a : List AVal) (n : Nat) (rest ys : List AVal), setCells (a ++ rest) (a.length + n) ys = a ++ setCells rest n ys
  | [], n, rest, ys => by simp
  | x :: a, n, rest, ys => by
    rw [List.cons_append, List.length_cons, show a.length + 1 + n = (a.length + n) + 1 by omega]
    simp only [setCells]
    rw [setCells_skip a n rest ys, List.cons_append]
theorem setCells_flat {α : Type} {enc : α → List AVal} {k : Nat} (hk : ∀ x, (enc x).length = k) : ∀ (ls : List α) (i : Nat) (hi : i < ls.length) (fo : Nat) (ys : List AVal) (x : α), fo + ys.length ≤ k → setCells (enc ls[i]) fo ys = enc x →
    setCells (ls.flatMap enc) (i * k + fo) ys = (ls.set i x).flatMap enc
  | [], i, hi, fo, ys, x, h, e => by simp at hi
  | a :: ls, 0, hi, fo, ys, x, h, e => by
    simp only [List.flatMap_cons, List.set_cons_zero, Nat.zero_mul, Nat.zero_add]
    rw [setCells_append _ _ _ _ (by rw [hk]; omega)]
    simp only [List.getElem_cons_zero] at e
    rw [e]
  | a :: ls, i + 1, hi, fo, ys, x, h, e => by
    simp only [List.flatMap_cons, List.set_cons_succ]
    rw [show (i + 1) * k + fo = (enc a).length + (i * k + fo) by rw [hk, Nat.add_mul]; omega, setCells_skip]
    rw [setCells_flat hk ls i (by simpa using hi) fo ys x h (by simpa using e)]

/-! ### One object is put anew -/
def HAt (H : HF) (l : Nat) (hd : Hd) : HF := fun m => if m = l then some hd else H m

theorem HAt_self {H : HF} {l : Nat} {hd : Hd} : HAt H l hd l = some hd := by simp [HAt]

mutual
theorem kill_sim {H H' : HF} {l : Nat} (hl : ∀ m, m ≠ l → H' m = H m) : ∀ {x : TV} {y : AVal}, SimV H x y → SimV H' (killV l x) y
  | .junk, _, _ => by simp [killV, SimV]
  | .tt, _, h => by simpa [killV, SimV] using h
  | .ff, _, h => by simpa [killV, SimV] using h
  | .bb _, _, h => by simpa [killV, SimV] using h
  | .pr _, _, h => by simpa [killV, SimV] using h
  | .gd _, _, h => by simpa [killV, SimV] using h
  | .int _ _, _, h => by simpa [killV, SimV] using h
  | .byte _, _, h => by simpa [killV, SimV] using h
  | .str _, _, h => by simpa [killV, SimV] using h
  | .nilp, _, h => by simpa [killV, SimV] using h
  | .nilf, _, h => by simpa [killV, SimV] using h
  | .nilm, _, h => by simpa [killV, SimV] using h
  | .nili, _, h => by simpa [killV, SimV] using h
  | .nils, _, h => by simpa [killV, SimV] using h
  | .ros _ _, _, h => by simpa [killV, SimV] using h
  | .ptr m off, _, h => by
    simp only [killV]
    split
    · simp [SimV]
    · rename_i hb
      have : m ≠ l := fun e => by subst e; simp at hb
      simpa only [SimV, hl m this] using h
  | .eptr m i fo, _, h => by
    simp only [killV]
    split
    · simp [SimV]
    · rename_i hb
      have : m ≠ l := fun e => by subst e; simp at hb
      simpa only [SimV, hl m this] using h
  | .slf m, _, h => by
    simp only [killV]
    split
    · simp [SimV]
    · rename_i hb
      have : m ≠ l := fun e => by subst e; simp at hb
      simpa only [SimV, hl m this] using h
  | .sl m _ _, _, h => by
    simp only [killV]
    split
    · simp [SimV]
    · rename_i hb
      have : m ≠ l := fun e => by subst e; simp at hb
      simpa only [SimV, hl m this] using h
  | .rop cs, _, h => by
    simp only [killV, SimV] at *
    obtain ⟨xs, h1, h2⟩ := h
    exact ⟨xs, h1, killL_sim hl h2⟩
  | .agg cs, _, h => by
    simp only [killV, SimV] at *
    obtain ⟨xs, h1, h2⟩ := h
    exact ⟨xs, h1, killL_sim hl h2⟩
  | .tup cs, _, h => by
    simp only [killV, SimV] at *
    obtain ⟨xs, h1, h2⟩ := h
    exact ⟨xs, h1, killL_sim hl h2⟩
  | .fn f cs, _, h => by
    simp only [killV, SimV] at *
    obtain ⟨xs, h1, h2⟩ := h
    exact ⟨xs, h1, killL_sim hl h2⟩
theorem killL_sim {H H' : HF} {l : Nat} (hl : ∀ m, m ≠ l → H' m = H m) : ∀ {x : List TV} {y : List AVal}, SimL H x y → SimL H' (killL l x) y
  | [], _, h => by simpa [killL, SimL] using h
  | x :: xs, _, h => by
    simp only [killL, SimL] at *
    obtain ⟨y, zs, h1, h2, h3⟩ := h
    exact ⟨y, zs, h1, kill_sim hl h2, killL_sim hl h3⟩
end
theorem killL_length {l : Nat} : ∀ xs : List TV, (killL l xs).length = xs.length
  | [] => rfl
  | x :: xs => by simp [killL, killL_length xs]

theorem look_kill {l : Nat} : ∀ {F : RF} {s : Nat} {gs : List (Nat × Bool)} {P : Prop} {x : TV}, lookN (killF l F) s = some (gs, P, x) → ∃ x0, lookN F s = some (gs, P, x0) ∧ x = killV l x0
  | [], s, gs, P, x, h => by simp [killF, lookN] at h
  | (t, g, q, z) :: F, s, gs, P, x, h => by
    simp only [killF, lookN] at h ⊢
    split at h
    · cases h; exact ⟨z, rfl, rfl⟩
    · exact look_kill h
theorem SimF.kill {H H' : HF} {l : Nat} (hl : ∀ m, m ≠ l → H' m = H m) {F : RF} {A : Frame} (h : SimF H F A) : SimF H' (killF l F) A := fun s gs P x hx => by
  obtain ⟨x0, h1, rfl⟩ := look_kill hx
  have e := h _ _ _ _ h1
  exact ⟨fun q => kill_sim hl (e.on q), e.off, e.iff⟩
theorem SimG.kill {H H' : HF} {l : Nat} (hl : ∀ m, m ≠ l → H' m = H m) {G : List RF} {AG : List Frame} (h : SimG H G AG) : SimG H' (killG l G) AG := by
  induction h with
  | nil => exact .nil
  | cons h _ ih => exact .cons (h.kill hl) ih

def killB (l : Nat) : TOb → TOb
  | .cells k cs => .cells k (killL l cs)
  | o => o
theorem killO_map (l : Nat) : ∀ TS : List TOb, killO l TS = TS.map (killB l)
  | [] => rfl
  | o :: TS => by cases o <;> simp [killO, killB, killO_map l TS]

theorem obj_lt {TS : List TOb} {l : Nat} {o : TOb} (h : objAt TS l = some o) : l < TS.length := by
  rw [objAt_eq] at h
  exact (List.getElem?_eq_some_iff.1 h).1

/-- Object l gets a new reading and a new header; the others stay. -/
theorem St3.anew {H : HF} {TS : List TOb} {S S' : Store} (st : St3 H TS S) {l : Nat} (hl : l < TS.length) {o : TOb} {hd : Hd} (ho : ObS (HAt H l hd) S' l o) (hS : ∀ m h p v, m ≠ l → H m = some h → h.loc = some (p, v) → S'[p]? = S[p]?)
    (hn : ∀ m h p v v', m ≠ l → H m = some h → h.loc = some (p, v) → hd.loc = some (p, v') → False) : St3 (HAt H l hd) ((TS.map (killB l)).set l o) S' := by
  have he : ∀ m, m ≠ l → HAt H l hd m = H m := fun m hm => by simp [HAt, hm]
  refine ⟨fun m o' hm => ?_, fun m hm => ?_, fun m m' h h' p v v' e1 e2 e3 e4 => ?_⟩
  · by_cases e : m = l
    · subst e
      rw [List.getElem?_set_self (by simpa using hl)] at hm
      cases hm
      exact ho
    · rw [List.getElem?_set_ne (Ne.symm e), List.getElem?_map] at hm
      cases hx : TS[m]? with
      | none => rw [hx] at hm; cases hm
      | some o0 =>
        rw [hx] at hm
        simp at hm
        subst hm
        have := st.ob m o0 hx
        cases o0 with
        | dead => simp only [killB, ObS] at *; rw [he m e]; exact this
        | cells k cs =>
          obtain ⟨p, v, xs, q1, q2, q3⟩ := this
          exact ⟨p, v, xs, by rw [he m e, q1, killL_length], by rw [hS m _ p v e q1 rfl]; exact q2, killL_sim he q3⟩
        | row t ls =>
          obtain ⟨loc, q1, q2⟩ := this
          refine ⟨loc, by rw [he m e, q1], ?_⟩
          cases loc with
          | none => exact q2
          | some q => simp only [RowAt] at *; rw [hS m _ q.1 q.2 e q1 rfl]; exact q2
  · simp at hm
    rw [he m (by omega)]
    exact st.out m hm
  · by_cases a : m = l <;> by_cases b : m' = l
    · rw [a, b]
    · subst a
      rw [he m' b] at e2
      simp [HAt] at e1
      subst e1
      exact (hn _ _ _ _ _ b e2 e4 e3).elim
    · subst b
      rw [he m a] at e1
      simp [HAt] at e2
      subst e2
      exact (hn _ _ _ _ _ a e1 e3 e4).elim
    · rw [he m a] at e1
      rw [he m' b] at e2
      exact st.inj _ _ _ _ _ _ _ e1 e2 e3 e4

/-- Cells of an object are written: the header stays. -/
theorem St3.put {H : HF} {TS : List TOb} {S : Store} (st : St3 H TS S) {l p : Nat} {o : TOb} {b : Ob} {hd : Hd} {v : Nat} (hl : l < TS.length) (hh : H l = some hd) (hp : hd.loc = some (p, v)) (ho : ObS H (S.set p b) l o) : St3 H (TS.set l o) (S.set p b) := by
  refine ⟨fun m o' hm => ?_, fun m hm => st.out m (by simpa using hm), st.inj⟩
  by_cases e : m = l
  · subst e
    rw [List.getElem?_set_self hl] at hm
    cases hm
    exact ho
  · rw [List.getElem?_set_ne (Ne.symm e)] at hm
    have := st.ob m o' hm
    have keep : ∀ q w hd', H m = some hd' → hd'.loc = some (q, w) → (S.set p b)[q]? = S[q]? := fun q w hd' g1 g2 => by
      rw [List.getElem?_set_ne]
      intro e2
      subst e2
      exact e (st.inj _ _ _ _ _ _ _ g1 hh g2 hp)
    cases o' with
    | dead => exact this
    | cells k cs =>
      obtain ⟨q, w, xs, q1, q2, q3⟩ := this
      exact ⟨q, w, xs, q1, by rw [keep q w _ q1 rfl]; exact q2, q3⟩
    | row t ls =>
      obtain ⟨loc, q1, q2⟩ := this
      refine ⟨loc, q1, ?_⟩
      cases loc with
      | none => exact q2
      | some q => simp only [RowAt] at *; rw [keep q.1 q.2 _ q1 rfl]; exact q2

section
variable {P : Program} {H : HF} {TS : List TOb} {S : Store} {F : RF} {A : Frame} {Γ : List (Nat × Ct)} {ht : Option Ty} {G : List RF} {AG : List Frame}

theorem wPush_mk {S : Store} {o : Ob} {K : Nat → Store → Prop} (h : K S.length (S ++ [o])) : wPush S o K := wPush_iff.2 h

/-- What is appended, as cells. -/
theorem srcV_sound (st : St3 H TS S) {t : Ty} {y : TV} {Y : AVal} {ys : List (T t)} (h0 : srcV TS t y = some ys) (hs : SimV H y Y) {K : Nat → List AVal → Prop} (hk : K ys.length (ys.flatMap (encT t))) : wSrc S (szT t) Y K := by
  have main : decS TS t y = some ys → wSrc S (szT t) Y K := fun h => by
    unfold decS at h
    split at h
    · rename_i e l
      split at h <;> cases h
      rename_i hh _
      subst hh
      simp only [SimV] at hs
      subst hs
      simp only [wSrc]
      have := flatMap_length (encT_length e) l
      refine ⟨by rw [this]; exact Nat.le_refl _, ?_⟩
      rw [List.take_of_length_le (by rw [this]; exact Nat.le_refl _)]
      exact hk
    · cases h
      simp only [SimV] at hs
      subst hs
      exact hk
    · split at h
      · rename_i e ls ho
        split at h <;> cases h
        rename_i hh _
        subst hh
        obtain ⟨loc, h1, h2⟩ := row_get st ho
        simp only [SimV] at hs
        obtain ⟨hd, g1, rfl⟩ := hs
        rw [h1] at g1; cases g1
        cases loc with
        | none => simp only [RowAt] at h2; subst h2; exact hk
        | some q =>
          obtain ⟨p, v⟩ := q
          simp only [slA, wSrc]
          have := flatMap_length (encT_length e) ls
          refine wRow_iff.2 ⟨_, _, h2, by rw [this]; omega, ?_⟩
          rw [subL, List.drop_zero, List.take_of_length_le (by rw [this]; exact Nat.le_refl _)]
          exact hk
      · cases h
    · rename_i l off len
      split at h
      · rename_i e ls ho
        split at h <;> cases h
        rename_i hh _
        subst hh
        obtain ⟨loc, h1, h2⟩ := row_get st ho
        simp only [SimV] at hs
        obtain ⟨hd, g1, g2, g3, g4, rfl⟩ := hs
        rw [h1] at g1; cases g1
        simp only at g4
        have hlen : ((ls.drop off.toNat).take len.toNat).length = len.toNat := by simp; omega
        rw [hlen] at hk
        cases loc with
        | none =>
          simp only [RowAt] at h2; subst h2
          simp only [List.length_nil] at g4
          have : len.toNat = 0 := by omega
          rw [this] at hk
          simpa [slA, wSrc] using hk
        | some q =>
          obtain ⟨p, v⟩ := q
          simp only [slA, wSrc]
          have e1 := flatMap_length (encT_length e) ls
          refine wRow_iff.2 ⟨_, _, h2, ?_, ?_⟩
          · rw [e1, ← Nat.add_mul]
            exact Nat.mul_le_mul_right _ (by omega)
          · have e2 := flatMap_length (encT_length e) ((ls.drop off.toNat).take len.toNat)
            rw [hlen] at e2
            rw [subL, flat_part ls off.toNat len.toNat, List.take_left' e2]
            exact hk
      · cases h
    · cases h
  unfold srcV at h0
  split at h0
  · rename_i s
    split at h0 <;> cases h0
    simp only [SimV] at hs
    subst hs
    simp only [wSrc, szT]
    refine ⟨trivial, ?_⟩
    have e : (s.map fun c => AVal.int .u8 (c.toNat : Int)) = (s.map fun c => (c.toNat : Int)).flatMap (encT (.int .u8)) := by
      clear hk
      induction s with
      | nil => rfl
      | cons c s ih => exact congrArg (AVal.int .u8 (c.toNat : Int) :: ·) (ih (fun h => nomatch h))
    rw [e]
    have e2 : List.length (α := T (.int .u8)) (s.map fun c => (c.toNat : Int)) = s.length := List.length_map _
    exact Eq.mp (congrArg (fun n => K n (List.flatMap (encT (Ty.int IntKind.u8)) (List.map (fun c => (c.toNat : Int)) s))) e2) hk
  · exact main h0

theorem append_sound' (st : St3 H TS S) (hF : SimF H F A) (hG : SimG H G AG) {k bytes : Nat} {x y : TV} {X Y : AVal} {ps : List Prop} {z : TV} {F' : RF} {G' : List RF} {TS' : List TOb} (h : evAppend ht F G TS k bytes x y = some (ps, z, F', G', TS')) (hps : AllP ps)
    (hx : SimV H x X) (hy : SimV H y Y) {K : AVal → Store → Prop} (hk : ∀ u S' H', St3 H' TS' S' → SimF H' F' A → SimG H' G' AG → SimV H' z u → K u S') :
    wSrc S k Y fun n ys => match (generalizing := false) X with
    | .nils => n * bytes ≤ 140737488355328 ∧ ∀ v, wPush S (.row v k ys) fun l S' => K (.sl l v 0 n) S'
    | .sl l ver off len => wRow S l ver fun k' cs => k' = k ∧ off + len * k ≤ cs.length ∧ (len + n) * bytes ≤ 140737488355328 ∧
        ∀ v, wSet S l (.row v k (subL cs off (len * k) ++ ys)) fun S' => K (.sl l v 0 (len + n)) S'
    | _ => False := by
  have main : ∀ {l : Nat} {t : Ty} {ls ys : List (T t)} {loc : Option (Nat × Nat)} {off len : Nat}, objAt TS l = some (.row t ls) → H l = some ⟨loc, szT t, ls.length⟩ → RowAt S t ls loc → szT t = k → off + len ≤ ls.length → srcV TS t y = some ys → (len + ys.length) * bytes ≤ 140737488355328 →
      (∀ u S' H', St3 H' (setOb (killO l TS) l (.row t ((ls.drop off).take len ++ ys))) S' → SimF H' (killF l F) A → SimG H' (killG l G) AG → SimV H' (.slf l) u → K u S') → X = slA loc (off * szT t) len → wSrc S k Y fun n ys => match (generalizing := false) X with
    | .nils => n * bytes ≤ 140737488355328 ∧ ∀ v, wPush S (.row v k ys) fun l S' => K (.sl l v 0 n) S'
    | .sl l ver off len => wRow S l ver fun k' cs => k' = k ∧ off + len * k ≤ cs.length ∧ (len + n) * bytes ≤ 140737488355328 ∧
        ∀ v, wSet S l (.row v k (subL cs off (len * k) ++ ys)) fun S' => K (.sl l v 0 (len + n)) S'
    | _ => False := by
    intro l t ls ys loc off len ho h1 h2 hsz hol hsrc hb hk hX
    subst hX
    rw [← hsz]
    refine srcV_sound st hsrc hy ?_
    have hlt := obj_lt ho
    rw [setOb_eq, killO_map] at hk
    have hlen : ((ls.drop off).take len).length = len := by simp; omega
    cases loc with
    | none =>
      simp only [RowAt] at h2
      subst h2
      simp only [List.length_nil] at hol
      have e1 : len = 0 := by omega
      subst e1
      simp only [slA]
      simp only [Nat.zero_add] at hb
      refine ⟨hb, fun v => wPush_mk ?_⟩
      have he : ∀ m, m ≠ l → HAt H l ⟨some (S.length, v), szT t, ys.length⟩ m = H m := fun m hm => by simp [HAt, hm]
      refine hk _ _ (HAt H l ⟨some (S.length, v), szT t, ys.length⟩) (st.anew hlt ⟨_, HAt_self, by simp [RowAt]⟩ (fun m h p w hm q1 q2 => ?_) (fun m h p w w' hm q1 q2 q3 => ?_)) (hF.kill he) (hG.kill he) ?_
      · rw [List.getElem?_append_left (st.lt q1 q2)]
      · have := st.lt q1 q2
        cases q3
        omega
      · simp only [SimV]
        exact ⟨_, HAt_self, rfl⟩
    | some q =>
      obtain ⟨p, ver⟩ := q
      simp only [slA]
      have e1 := flatMap_length (encT_length t) ls
      refine wRow_iff.2 ⟨_, _, h2, rfl, by rw [e1, ← Nat.add_mul]; exact Nat.mul_le_mul_right _ hol, hb, fun v => ?_⟩
      have hp : p < S.length := st.lt h1 rfl
      refine wSet_iff' hp ?_
      have he : ∀ m, m ≠ l → HAt H l ⟨some (p, v), szT t, len + ys.length⟩ m = H m := fun m hm => by simp [HAt, hm]
      refine hk _ _ (HAt H l ⟨some (p, v), szT t, len + ys.length⟩) (st.anew hlt ⟨_, by rw [List.length_append, hlen]; exact HAt_self, ?_⟩ (fun m h p' w hm q1 q2 => ?_) (fun m h p' w w' hm q1 q2 q3 => ?_)) (hF.kill he) (hG.kill he) ?_
      · simp only [RowAt]
        rw [List.getElem?_set_self hp]
        have e2 := flatMap_length (encT_length t) ((ls.drop off).take len)
        rw [hlen] at e2
        rw [subL, flat_part ls off len, List.take_left' e2, List.flatMap_append]
      · rw [List.getElem?_set_ne]
        intro e
        subst e
        exact hm (st.inj _ _ _ _ _ _ _ q1 h1 q2 rfl)
      · cases q3
        exact hm (st.inj _ _ _ _ _ _ _ q1 h1 q2 rfl)
      · simp only [SimV]
        exact ⟨_, HAt_self, rfl⟩
  unfold evAppend at h
  split at h
  · split at h
    · rename_i l _ t ls ho
      split at h
      · rename_i ys hsrc hz
        cases h
        simp only [SimV] at hx
        obtain ⟨hd, e1, hX⟩ := hx
        obtain ⟨loc, q1, q2⟩ := row_get st ho
        rw [q1] at e1; cases e1
        refine main (off := 0) (len := ls.length) ho q1 q2 (beq_eq hz) (by omega) hsrc ?_ (by simpa using hk) (by simpa using hX)
        exact hps.cons.1
      · cases h
    · cases h
  · split at h
    · rename_i l off len _ t ls ho
      split at h
      · rename_i ys hsrc hz
        cases h
        simp only [SimV] at hx
        obtain ⟨hd, e1, e2, e3, e4, hX⟩ := hx
        obtain ⟨loc, q1, q2⟩ := row_get st ho
        rw [q1] at e1; cases e1
        simp only at e4
        refine main (off := off.toNat) (len := len.toNat) ho q1 q2 (beq_eq hz) (by omega) hsrc ?_ hk hX
        exact hps.cons.1
      · cases h
    · cases h
  · split at h
    · rename_i t
      split at h
      · rename_i ys hsrc hz
        cases h
        simp only [SimV] at hx
        subst hx
        rw [← beq_eq hz]
        refine srcV_sound st hsrc hy ⟨hps.cons.1, fun v => wPush_mk ?_⟩
        obtain ⟨H', g1, g2, g3⟩ := st.pushRow t ys v
        rw [pushO_eq, lenT_eq] at hk
        exact hk _ _ H' g2 (hF.ext g1) (hG.ext g1) (by simp only [SimV]; exact ⟨_, g3, rfl⟩)
      · cases h
    · cases h
  · cases h

theorem nilOver_eq {TS : List TOb} {n : Nat} {x y : TV} {l off k m : Nat} {cs : List TV} {t : Ty} (h : nilOver TS n x y = some (l, off, k, cs, m, t)) :
    y = .nils ∧ n = 1 ∧ x = .ptr l off ∧ objAt TS l = some (.cells k cs) ∧ m ≠ l ∧ (∃ ls, objAt TS m = some (.row t ls)) ∧ off < cs.length := by
  unfold nilOver at h
  split at h
  · split at h
    · rename_i k' cs' ho
      have off_lt : ∀ {c : TV} {r : List TV} {j : Nat}, cs'.drop j = c :: r → j < cs'.length := fun {c r j} e => by
        rcases Nat.lt_or_ge j cs'.length with q | q
        · exact q
        · rw [List.drop_of_length_le q] at e; cases e
      split at h
      · rename_i m' r hd
        split at h <;> cases h
        exact ⟨rfl, rfl, rfl, ho, Nat.ne_of_beq_eq_false (by assumption), ⟨_, by assumption⟩, off_lt hd⟩
      · rename_i m' _ _ r hd
        split at h <;> cases h
        exact ⟨rfl, rfl, rfl, ho, Nat.ne_of_beq_eq_false (by assumption), ⟨_, by assumption⟩, off_lt hd⟩
      · cases h
    · cases h
  · cases h
theorem nil_store (st : St3 H TS S) (hF : SimF H F A) (hG : SimG H G AG) {n : Nat} {x y : TV} {X Y : AVal} {l off k m : Nat} {cs : List TV} {t : Ty} (h : nilOver TS n x y = some (l, off, k, cs, m, t))
    (hx : SimV H x X) (hy : SimV H y Y) {K : AVal → Store → Prop} (hk : ∀ u S' H', St3 H' (setOb (setOb (killO m TS) m (.row t [])) l (.cells k (setG (killL m cs) off [.slf m]))) S' → SimF H' (killF m F) A → SimG H' (killG m G) AG → SimV H' .junk u → K u S') :
    (match (generalizing := false) X with
    | .ptr l ver off => wRow S l ver fun k cs => wCells Y fun ys => ys.length = n ∧ off + n ≤ cs.length ∧
        setRowK k cs off ys fun cs' => wSet S l (.row ver k cs') fun S' => K .junk S'
    | _ => False) := by
  obtain ⟨rfl, rfl, rfl, ho, hml, ⟨ls, hm⟩, hlt⟩ := nilOver_eq h
  simp only [SimV] at hx hy
  obtain ⟨hd, p, v, e1, e2, rfl⟩ := hx
  subst hy
  obtain ⟨p', v', xs, q1, q2, q3⟩ := cells_get st ho
  rw [q1] at e1; cases e1; cases e2
  have f2 := q3.length
  refine wRow_iff.2 ⟨_, _, q2, ?_⟩
  simp only [wCells]
  refine ⟨rfl, by omega, setRowK_iff.2 (wSet_iff' (st.lt q1 rfl) ?_)⟩
  have mlt := obj_lt hm
  have he : ∀ j, j ≠ m → HAt H m ⟨none, szT t, 0⟩ j = H j := fun j hj => by simp [HAt, hj]
  have st1 := st.anew (S' := S) mlt (o := .row t []) (hd := ⟨none, szT t, 0⟩) ⟨none, by simp [HAt], rfl⟩ (fun _ _ _ _ _ _ _ => rfl) (fun _ _ _ _ _ _ _ _ e => by cases e)
  have hl1 : HAt H m ⟨none, szT t, 0⟩ l = H l := he l (fun e => hml e.symm)
  have hl2 : l < ((TS.map (killB m)).set m (.row t [])).length := by simpa using obj_lt ho
  have q3' : SimL (HAt H m ⟨none, szT t, 0⟩) (killL m cs) xs := killL_sim he q3
  have st2 := st1.put (o := .cells k (setG (killL m cs) off [.slf m])) (b := .row _ k (setCells xs off [.nils])) hl2 (by rw [hl1]; exact q1) rfl ⟨_, _, _, by rw [hl1, q1, setG_length, killL_length], by rw [List.getElem?_set_self (st.lt q1 rfl)], q3'.setG (by simp only [SimL, SimV]; exact ⟨_, [], rfl, ⟨_, by simp only [HAt, if_pos]; rfl, rfl⟩, rfl⟩)⟩
  rw [setOb_eq, setOb_eq, killO_map] at hk
  exact hk _ _ _ st2 (hF.kill he) (hG.kill he) (by simp [SimV])

theorem store_sound' (st : St3 H TS S) (hF : SimF H F A) (hG : SimG H G AG) {n : Nat} {x y : TV} {X Y : AVal} {ps : List Prop} {z : TV} {F' : RF} {G' : List RF} {TS' : List TOb} (h : evStore F G TS n x y = some (ps, z, F', G', TS')) (hps : AllP ps)
    (hx : SimV H x X) (hy : SimV H y Y) {K : AVal → Store → Prop} (hk : ∀ u S' H', St3 H' TS' S' → SimF H' F' A → SimG H' G' AG → SimV H' z u → K u S') :
    (match (generalizing := false) X with
    | .ptr l ver off => wRow S l ver fun k cs => wCells Y fun ys => ys.length = n ∧ off + n ≤ cs.length ∧
        setRowK k cs off ys fun cs' => wSet S l (.row ver k cs') fun S' => K .junk S'
    | _ => False) := by
  unfold evStore at h
  split at h
  · rename_i l off k cs m t hn
    cases h
    exact nil_store st hF hG hn hx hy hk
  split at h
  · rename_i l off ys hc _
    split at h
    · rename_i k cs ho
      split at h
      · rename_i hs1 hs2
        cases h
        simp only [SimV] at hx
        obtain ⟨hd, p, v, e1, e2, rfl⟩ := hx
        obtain ⟨p', v', xs, q1, q2, q3⟩ := cells_get st ho
        rw [q1] at e1; cases e1; cases e2
        refine wRow_iff.2 ⟨_, _, q2, tvCells_sim hc hy fun ws hw => ?_⟩
        have f1 := hw.length
        have f2 := q3.length
        have f3 := sizeIs_len hs1
        have f4 := sizeLe_len hs2
        refine ⟨by omega, by omega, setRowK_iff.2 (wSet_iff' (st.lt q1 rfl) ?_)⟩
        rw [setOb_eq] at hk
        refine hk _ _ H (st.put (obj_lt ho) q1 rfl ⟨_, _, _, by rw [q1, setG_length], ?_, q3.setG hw⟩) hF hG (by simp [SimV])
        rw [List.getElem?_set_self (st.lt q1 rfl)]
      · cases h
    · cases h
  · rename_i l i fo ys hc _
    split at h
    · rename_i t ls ho
      split at h
      · rename_i x' _ hd _ hs1 hs2
        cases h
        simp only [SimV] at hx
        obtain ⟨hd', p, v, e1, e2, e3, e4, rfl⟩ := hx
        obtain ⟨loc, q1, q2⟩ := row_get st ho
        rw [q1] at e1; cases e1
        simp only at e2 e4
        subst e2
        obtain ⟨hi, e⟩ := gt_get (d := zT t) e3 (by exact_mod_cast e4)
        rw [e] at hs2 hd
        refine wRow_iff.2 ⟨_, _, q2, tvCells_sim hc hy fun ws hw => ?_⟩
        have f1 := hw.length
        have f3 := sizeIs_len hs1
        have f4 := sizeLe_len hs2
        rw [cellsT_length] at f4
        have f5 := flatMap_length (encT_length t) ls
        have f6 : i.toNat * szT t + szT t ≤ ls.length * szT t := by
          rw [← Nat.succ_mul]
          exact Nat.mul_le_mul_right _ hi
        refine ⟨by omega, by rw [f5]; simp only; omega, setRowK_iff.2 (wSet_iff' (st.lt q1 rfl) ?_)⟩
        rw [setOb_eq] at hk
        obtain ⟨zs, g1, g2⟩ := decC_sim (H := H) t hd ((cellsT_sim t _).setG hw)
        simp only [SimL] at g2
        subst g2
        rw [List.append_nil] at g1
        refine hk _ _ H (st.put (obj_lt ho) q1 rfl ⟨_, by rw [q1, List.length_set], ?_⟩) hF hG (by simp [SimV])
        simp only [RowAt]
        rw [List.getElem?_set_self (st.lt q1 rfl), setCells_flat (encT_length t) ls i.toNat hi fo ws x' (by omega) g1]
      · cases h
    · cases h
  · cases h

theorem evE_sound (hΓ : Cons P Γ) (st : St3 H TS S) (hF : SimF H F A) (hG : SimG H G AG) {so : SOp} {ps : List Prop} {y : TV} {F' : RF} {G' : List RF} {TS' : List TOb} (h : evE Γ ht F G TS so = some (ps, y, F', G', TS')) (hps : AllP ps)
    {K : AVal → Store → Prop} (hk : ∀ z S' H', St3 H' TS' S' → SimF H' F' A → SimG H' G' AG → SimV H' y z → K z S') : vcOp P A S K so := by
  have hp : holds A [] := holds_nil
  have w2 : ∀ {x z : Rand} {f : TV → TV → ER}, withE2 F x z f = some (ps, y, F', G', TS') → ∃ a b, f a b = some (ps, y, F', G', TS') ∧ SimV H a (rd A x) ∧ SimV H b (rd A z) := fun {x z f} h => by
    unfold withE2 at h
    split at h
    · rename_i a b hx hz; exact ⟨a, b, h, rdP_sim hF hp hx, rdP_sim hF hp hz⟩
    · cases h
  cases so <;> simp only [evE] at h <;> (try (cases h; done))
  case newnil k =>
    split at h
    · rename_i t
      split at h
      · rename_i hz
        simp only [evNew] at h
        cases h
        simp only [vcOp]
        intro v
        refine wPush_mk ?_
        obtain ⟨H', g1, g2, g3⟩ := st.pushRow t [] v
        rw [pushO_eq, lenT_eq] at hk
        refine hk _ _ H' ?_ (hF.ext g1) (hG.ext g1) (by simp only [SimV]; exact ⟨_, g3, rfl⟩)
        rw [← beq_eq hz]
        exact g2
      · cases h
    · cases h
  case mov x =>
    split at h
    · rename_i hn
      have e : x = .c .nils := by
        unfold isNils at hn
        split at hn
        · rfl
        · cases hn
      subst e
      unfold evNew at h
      split at h <;> cases h
      rename_i t
      simp only [vcOp, rdK]
      obtain ⟨H', g1, g2, g3⟩ := st.pushNil t
      rw [pushO_eq, lenT_eq] at hk
      exact hk _ _ H' g2 (hF.ext g1) (hG.ext g1) (by simp only [SimV]; exact ⟨_, g3, rfl⟩)
    · cases h
  case alloc k z =>
    split at h <;> cases h
    rename_i cs hz
    simp only [vcOp]
    intro v
    refine wPush_mk ?_
    obtain ⟨H', g1, g2, g3⟩ := st.pushCells k (ofL_sim hz) v
    rw [pushO_eq, lenT_eq] at hk
    exact hk _ _ H' g2 (hF.ext g1) (hG.ext g1) (by simp only [SimV]; exact ⟨_, _, _, g3, rfl, rfl⟩)
  case box k x =>
    split at h
    · rename_i y hx
      split at h <;> cases h
      rename_i cs hc
      simp only [vcOp, rdK_iff]
      refine tvCells_sim hc (rdP_sim hF hp hx) fun ys hs v => wPush_mk ?_
      obtain ⟨H', g1, g2, g3⟩ := st.pushCells k hs v
      rw [pushO_eq, lenT_eq] at hk
      exact hk _ _ H' g2 (hF.ext g1) (hG.ext g1) (by simp only [SimV]; exact ⟨_, _, _, g3, rfl, rfl⟩)
    · cases h
  case bslice ro len k z parts =>
    split at h
    · split at h <;> cases h
      rename_i t xs hl
      unfold evLit at hl
      split at hl
      · split at hl
        · rename_i hsz hf
          split at hl <;> cases hl
          rename_i hd
          rename_i cs hz _ _ _ _
          simp only [vcOp]
          refine fillT_sim hF hp hf (ofL_sim hz) fun ws hw v => wPush_mk ?_
          obtain ⟨e1, rfl⟩ := decL_sim len hd hw
          obtain ⟨H', g1, g2, g3⟩ := st.pushRow t xs v
          rw [pushO_eq, lenT_eq] at hk
          refine hk _ _ H' ?_ (hF.ext g1) (hG.ext g1) (by simp only [SimV]; exact ⟨_, g3, by simp only [slA, e1]⟩)
          rw [← beq_eq hsz]
          exact g2
        · cases hl
      · cases hl
    · cases h
  case mkslice k bytes z len cap =>
    obtain ⟨a, b, h1, h2, h3⟩ := w2 h
    unfold evMk at h1
    split at h1
    · rename_i t cs k1 n k2 m hz hi1 hi2
      split at h1 <;> cases h1
      rename_i x _ hd hsz hkk
      have hkk := kEq_eq hkk
      subst hkk
      have g1 := hps.cons
      have g2 := g1.2.cons
      have g3 := g2.2.cons
      have q1 := g1.1
      have q2 := g2.1
      have q3 := g3.1
      simp only [vcOp, rdK_iff, asI_sim hi1 h2, asI_sim hi2 h3, wIdx]
      refine ⟨n.toNat, by omega, by rw [q1], q3, fun v => wPush_mk ?_⟩
      · obtain ⟨e1, e2⟩ := decL_sim (H := H) 1 hd (ofL_sim hz)
        simp only [List.flatMap_cons, List.flatMap_nil, List.append_nil] at e2
        obtain ⟨H', p1, p2, p3⟩ := st.pushRow t (List.replicate n.toNat x) v
        rw [pushO_eq, lenT_eq] at hk
        refine hk _ _ H' ?_ (hF.ext p1) (hG.ext p1) (by simp only [SimV]; exact ⟨_, p3, by simp only [slA, List.length_replicate]⟩)
        rw [e2, ← beq_eq hsz]
        have : (List.replicate n.toNat (encT t x)).flatten = (List.replicate n.toNat x).flatMap (encT t) := by
          rw [List.flatMap, List.map_replicate]
        rw [this]
        exact p2
    · cases h1
  case store n x v =>
    obtain ⟨a, b, h1, h2, h3⟩ := w2 h
    have := store_sound' st hF hG h1 hps h2 h3 hk
    simp only [vcOp, rdK_iff]
    exact this
  case append k bytes s x =>
    obtain ⟨a, b, h1, h2, h3⟩ := w2 h
    have := append_sound' st hF hG h1 hps h2 h3 hk
    simp only [vcOp, rdK_iff]
    exact this
  case clear k z x =>
    split at h
    · rename_i a hx
      have hs := rdP_sim hF hp hx
      simp only [vcOp, rdK_iff]
      unfold evClear at h
      split at h
      · cases h
        simp only [SimV] at hs
        rw [hs]
        exact hk _ _ H st hF hG (by simp [SimV])
      · rename_i l cs hz
        split at h
        · rename_i t ls ho
          split at h <;> cases h
          rename_i z0 hd hb
          have hb := beq_eq hb
          obtain ⟨loc, q1, q2⟩ := row_get st ho
          simp only [SimV] at hs
          obtain ⟨hd', e1, e2⟩ := hs
          rw [q1] at e1; cases e1
          obtain ⟨d1, d2⟩ := decL_sim (H := H) 1 hd (ofL_sim hz)
          simp only [List.flatMap_cons, List.flatMap_nil, List.append_nil] at d2
          rw [setOb_eq] at hk
          cases loc with
          | none =>
            simp only [RowAt] at q2
            subst q2
            simp only [slA] at e2
            rw [e2]
            refine hk _ _ H ?_ hF hG (by simp [SimV])
            rw [List.length_nil, List.replicate_zero]
            have : TS.set l (.row t []) = TS := List.ext_getElem? fun i => by
              rw [List.getElem?_set]
              split
              · rename_i e; subst e; rw [objAt_eq] at ho; split
                · exact ho.symm
                · rw [List.getElem?_eq_none (by omega)] at ho; cases ho
              · rfl
            rw [this]; exact st
          | some pv =>
            obtain ⟨p, v⟩ := pv
            simp only [slA] at e2
            rw [e2]
            simp only [RowAt] at q2
            have f5 := flatMap_length (encT_length t) ls
            refine wRow_iff.2 ⟨_, _, q2, hb, by rw [f5, ← hb]; simp, wSet_iff' (st.lt q1 rfl) ?_⟩
            refine hk _ _ H (st.put (obj_lt ho) q1 rfl ⟨_, by rw [q1, List.length_replicate], ?_⟩) hF hG (by simp [SimV])
            simp only [RowAt]
            rw [List.getElem?_set_self (st.lt q1 rfl), d2, hb]
            have e3 : (List.replicate ls.length (encT t z0)).flatten = (List.replicate ls.length z0).flatMap (encT t) := by rw [List.flatMap, List.map_replicate]
            have e4 := flatMap_length (encT_length t) (List.replicate ls.length z0)
            rw [List.length_replicate] at e4
            rw [e3, setCells_all (by rw [e4, f5])]
        · cases h
      · rename_i l off len cs hz
        split at h
        · rename_i t ls ho
          split at h <;> cases h
          rename_i z0 hd hb
          have hb := beq_eq hb
          obtain ⟨loc, q1, q2⟩ := row_get st ho
          simp only [SimV] at hs
          obtain ⟨hd', e1, r1, r2, r3, e2⟩ := hs
          rw [q1] at e1; cases e1
          obtain ⟨d1, d2⟩ := decL_sim (H := H) 1 hd (ofL_sim hz)
          simp only [List.flatMap_cons, List.flatMap_nil, List.append_nil] at d2
          rw [setOb_eq] at hk
          have hol : off.toNat + len.toNat ≤ ls.length := by simp only at r3; omega
          have hlen2 : (ls.take off.toNat ++ List.replicate len.toNat z0 ++ ls.drop (off.toNat + len.toNat)).length = ls.length := by simp; omega
          cases loc with
          | none =>
            simp only [RowAt] at q2
            subst q2
            simp only [slA] at e2
            rw [e2]
            simp only [List.length_nil] at hol
            refine hk _ _ H ?_ hF hG (by simp [SimV])
            rw [show len.toNat = 0 by omega]
            simp only [List.take_nil, List.replicate_zero, List.drop_nil, List.append_nil, List.nil_append]
            have : TS.set l (.row t []) = TS := List.ext_getElem? fun i => by
              rw [List.getElem?_set]
              split
              · rename_i e; subst e; rw [objAt_eq] at ho; split
                · exact ho.symm
                · rw [List.getElem?_eq_none (by omega)] at ho; cases ho
              · rfl
            rw [this]; exact st
          | some pv =>
            obtain ⟨p, v⟩ := pv
            simp only [slA] at e2
            rw [e2]
            simp only [RowAt] at q2
            have f5 := flatMap_length (encT_length t) ls
            refine wRow_iff.2 ⟨_, _, q2, hb, ?_, wSet_iff' (st.lt q1 rfl) ?_⟩
            · rw [f5, ← hb, ← Nat.add_mul]; exact Nat.mul_le_mul_right _ hol
            refine hk _ _ H (st.put (obj_lt ho) q1 rfl ⟨_, by rw [q1, hlen2], ?_⟩) hF hG (by simp [SimV])
            simp only [RowAt]
            rw [List.getElem?_set_self (st.lt q1 rfl), d2, hb]
            have e3 : (List.replicate len.toNat (encT t z0)).flatten = (List.replicate len.toNat z0).flatMap (encT t) := by rw [List.flatMap, List.map_replicate]
            have e4 := flatMap_length (encT_length t) (List.replicate len.toNat z0)
            rw [List.length_replicate] at e4
            have e5 : ls.flatMap (encT t) = (ls.take off.toNat).flatMap (encT t) ++ (((ls.drop off.toNat).take len.toNat).flatMap (encT t) ++ (ls.drop (off.toNat + len.toNat)).flatMap (encT t)) := by
              rw [← List.flatMap_append, ← List.flatMap_append]
              congr 1
              have : ls.drop (off.toNat + len.toNat) = (ls.drop off.toNat).drop len.toNat := by rw [List.drop_drop]
              rw [this, List.take_append_drop, List.take_append_drop]
            have e6 := flatMap_length (encT_length t) (ls.take off.toNat)
            rw [List.length_take, Nat.min_eq_left (by omega)] at e6
            have e7 := flatMap_length (encT_length t) ((ls.drop off.toNat).take len.toNat)
            rw [List.length_take, List.length_drop, Nat.min_eq_left (by omega)] at e7
            rw [e3, e5, ← hb, ← e6]
            have := setCells_skip ((ls.take off.toNat).flatMap (encT t)) 0 (((ls.drop off.toNat).take len.toNat).flatMap (encT t) ++ (ls.drop (off.toNat + len.toNat)).flatMap (encT t)) ((List.replicate len.toNat z0).flatMap (encT t))
            rw [Nat.add_zero] at this
            rw [this, setCells_append _ _ _ _ (by rw [e4, e7]; omega), setCells_all (by rw [e4, e7])]
            simp only [List.flatMap_append, List.append_assoc]
        · cases h
      · cases h
    · cases h
  case call f args =>
    split at h
    · rename_i xs hx
      have hs := rdPs_sim hF hp hx
      unfold evCallE at h
      split at h
      · rename_i ct hc
        split at h <;> cases h
        rename_i hd hf
        rw [pushL_eq, lenT_eq] at hk
        simp only [vcOp, rdsK_iff]
        exact con_use (hΓ.look hc) st hd hps.cons.1 hs hf fun r S' H' g1 g2 g3 => hk _ _ H' g2 (hF.ext g1) (hG.ext g1) g3
      · cases h
    · cases h
end
end Go.Vc
