/-
  Contracts over plain terms, used where a store stands; and what the operations that leave the store alone come to.
-/
import Derived.Test.YtfelfimcnidplaaVyD
set_option linter.unusedVariables false
set_option linter.unusedSimpArgs false
namespace Go.Vc

section
variable {H : HF} {TS : List TOb} {S : Store}

theorem relC_pre {E : Env} {fz : Nat → Prop} {w : World} {b off : Nat} {xs ys : List AVal} (h : RelC E fz w b off (xs ++ ys)) : RelC E fz w b off xs := by
  have := h.take xs.length
  rwa [List.take_left'] at this
  rfl

theorem row_get (st : St3 H TS S) {l : Nat} {t : Ty} {ls : List (T t)} (ho : objAt TS l = some (.row t ls)) : ∃ loc, H l = some ⟨loc, szT t, ls.length, []⟩ ∧ RowAt S t ls loc := by
  rw [objAt_eq] at ho
  exact st.ob l _ ho
theorem cells_get (st : St3 H TS S) {l k : Nat} {cs : List TV} (ho : objAt TS l = some (.cells k cs)) : ∃ p v xs, H l = some ⟨some (p, v), k, cs.length, []⟩ ∧ S[p]? = some (.row v k xs) ∧ SimL H cs xs := by
  rw [objAt_eq] at ho
  exact st.ob l _ ho

theorem drow_get (st : St3 H TS S) {l : Nat} {t : Ty} {ls : List (List (T t))} (ho : objAt TS l = some (.drow t ls)) : ∃ p v sub, H l = some ⟨some (p, v), 1, ls.length, sub⟩ ∧ S[p]? = some (.row v 1 (sub.map subA)) ∧ SubsAt S t ls sub := by
  rw [objAt_eq] at ho
  exact st.ob l _ ho

theorem flat_part {t : Ty} (ls : List (T t)) (a n : Nat) : (ls.flatMap (encT t)).drop (a * szT t) = ((ls.drop a).take n).flatMap (encT t) ++ ((ls.drop a).drop n).flatMap (encT t) := by
  rw [drop_flat (encT_length t), ← List.flatMap_append, List.take_append_drop]

theorem decS_rel (st3 : St3 H TS S) {t : Ty} {x : TV} {a : List (T t)} {y : AVal} (h : decS TS t x = some a) (hs : SimV H x y) {E : Env} {fz fz' : Nat → Prop} {w : World} {v : Value} (hfz : ∀ b, fz b → fz' b)
    (hx : pureV x = true ∨ (fz' = frozen E fz S ∧ St E fz S w)) (hr : Rel E fz w y v) : Rel E fz' w (.ros a.length (a.flatMap (encT t))) v := by
  have nilc : Rel E fz w .nils v → Rel E fz' w (.ros 0 []) v := fun h => by
    simp only [Rel] at h ⊢
    exact .inl ⟨trivial, none, 0, h⟩
  unfold decS at h
  split at h
  · split at h <;> cases h
    rename_i hh _
    subst hh
    simp only [SimV] at hs
    subst hs
    exact hr.mono (fun _ _ h => h) hfz (fun _ _ => rfl)
  · cases h
    simp only [SimV] at hs
    subst hs
    exact nilc hr
  · rename_i l
    split at h
    · rename_i e ls ho
      split at h <;> cases h
      rename_i hh _
      subst hh
      obtain ⟨loc, h1, h2⟩ := row_get st3 ho
      simp only [SimV] at hs
      obtain ⟨hd, g1, rfl⟩ := hs
      rw [h1] at g1; cases g1
      rcases hx with hx | ⟨rfl, stE⟩
      · simp [pureV] at hx
      cases loc with
      | none =>
        simp only [RowAt] at h2; subst h2
        exact nilc hr
      | some q =>
        obtain ⟨p, ver⟩ := q
        have := deref_rel stE 1 _ _ hr
        simpa [deref, slA, show S[p]? = _ from h2] using this
    · cases h
  · rename_i l off len
    split at h
    · rename_i e ls ho
      split at h <;> cases h
      rename_i hh _
      subst hh
      obtain ⟨loc, h1, h2⟩ := row_get st3 ho
      simp only [SimV] at hs
      obtain ⟨hd, g1, g2, g3, g4, rfl⟩ := hs
      rw [h1] at g1; cases g1
      simp only at g4
      have hlen : ((ls.drop off.toNat).take len.toNat).length = len.toNat := by simp; omega
      rw [hlen]
      rcases hx with hx | ⟨rfl, stE⟩
      · simp [pureV] at hx
      cases loc with
      | none =>
        simp only [RowAt] at h2; subst h2
        simp only [List.length_nil] at g4
        have : len.toNat = 0 := by omega
        rw [this]
        simpa using nilc hr
      | some q =>
        obtain ⟨p, ver⟩ := q
        have := deref_rel stE 1 _ _ hr
        simp only [deref, slA, show S[p]? = _ from h2, if_pos, List.map_id'] at this
        rw [flat_part ls off.toNat len.toNat] at this
        simp only [Rel] at this ⊢
        rcases this with hz | ⟨b, o, c, q1, q2, q3, q4⟩
        · exact .inl hz
        · exact .inr ⟨b, o, c, q1, q2, q3, relC_pre q4⟩
    · cases h
  · cases h

theorem decA_rel (st3 : St3 H TS S) {t : Ty} {x : TV} {a : T t} {y : AVal} (h : decA TS t x = some a) (hs : SimV H x y) {E : Env} {fz fz' : Nat → Prop} {w : World} {v : Value} (hfz : ∀ b, fz b → fz' b)
    (hx : pureV x = true ∨ (fz' = frozen E fz S ∧ St E fz S w)) (hr : Rel E fz w y v) : Rel E fz' w (encA t a) v := by
  have up : Rel E fz' w y v := hr.mono (fun _ _ h => h) hfz (fun _ _ => rfl)
  cases t with
  | int k =>
    simp only [decA, decAI] at h
    split at h
    · rename_i k' n hi
      split at h <;> cases h
      rename_i hk
      have hk := kEq_eq hk
      subst hk
      rw [asI_sim hi hs] at up
      exact up
    · cases h
  | str =>
    simp only [decA] at h
    unfold decAS at h
    split at h <;> cases h
    simp only [SimV] at hs
    subst hs
    exact up
  | bool =>
    simp only [decA] at h
    rw [asB_sim h hs] at up
    exact up
  | st fs =>
    simp only [decA] at h
    unfold decAg at h
    split at h
    · split at h <;> cases h
      rename_i hd
      simp only [SimV] at hs
      obtain ⟨xs, rfl, hs⟩ := hs
      obtain ⟨zs, rfl, hz⟩ := decCs_sim fs hd hs
      simp only [SimL] at hz
      subst hz
      rw [List.append_nil] at up
      exact up
    · cases h
  | sl e =>
    simp only [decA] at h
    exact decS_rel st3 h hs hfz hx hr

theorem decAs_rel (st3 : St3 H TS S) {E : Env} {fz fz' : Nat → Prop} {w : World} (hfz : ∀ b, fz b → fz' b) : ∀ (ts : Tys) {xs : List TV} {a : Ts ts} {ys : List AVal} {vs : List Value}, decAs TS ts xs = some a → SimL H xs ys →
    (pureL xs = true ∨ (fz' = frozen E fz S ∧ St E fz S w)) → RelL E fz w ys vs → RelL E fz' w (encAs ts a) vs
  | .nil, xs, a, ys, vs, h, hs, hx, hr => by
    unfold decAs at h
    split at h <;> cases h
    simp only [SimL] at hs; subst hs
    simpa [encAs, RelL] using hr
  | .cons t .nil, xs, a, ys, vs, h, hs, hx, hr => by
    have h : decA1 TS t xs = some a := h
    unfold decA1 at h
    split at h
    · simp only [SimL] at hs
      obtain ⟨y, zs, rfl, h1, rfl⟩ := hs
      simp only [RelL, encAs] at hr ⊢
      obtain ⟨v, us, rfl, r1, r2⟩ := hr
      exact ⟨v, us, rfl, decA_rel st3 h h1 hfz (hx.imp (fun q => by simpa [pureL] using q) id) r1, r2⟩
    · cases h
  | .cons t (.cons u ts), [], a, ys, vs, h, hs, hx, hr => by rw [decAs] at h; cases h
  | .cons t (.cons u ts), x :: xs, a, ys, vs, h, hs, hx, hr => by
    rw [decAs] at h
    split at h <;> cases h
    rename_i p q h1 h2
    simp only [SimL] at hs
    obtain ⟨y, zs, rfl, s1, s2⟩ := hs
    simp only [RelL, encAs] at hr ⊢
    obtain ⟨v, us, rfl, r1, r2⟩ := hr
    refine ⟨v, us, rfl, decA_rel st3 h1 s1 hfz (hx.imp (fun q => ?_) id) r1, decAs_rel st3 hfz (.cons u ts) h2 s2 (hx.imp (fun q => ?_) id) r2⟩
    · simp only [pureL, Bool.and_eq_true] at q; exact q.1
    · simp only [pureL, Bool.and_eq_true] at q; exact q.2

theorem plain_ret : ∀ {ys : List AVal}, plainL ys = true → plain (retA ys) = true
  | [], _ => rfl
  | [x], h => by simpa [plainL, retA] using h
  | x :: y :: ys, h => h
theorem plain_sh (m : Nat) : ∀ {ys : List AVal}, plainL ys = true → plainL (ys.map (shA m)) = true
  | [], _ => rfl
  | x :: ys, h => by
    simp only [plainL, Bool.and_eq_true, List.map_cons] at *
    refine ⟨?_, plain_sh m h.2⟩
    cases x <;> first | rfl | exact h.1

theorem con_raw {P : Program} {f : FuncId} {ct : Ct} (hc : Con P f ct) (st3 : St3 H TS S) {xs : List TV} {a : Ts ct.args} {ys : List AVal} (hd : decAs TS ct.args xs = some a) (hp : ct.pre a) (hs : SimL H xs ys) (hf : (flatR ct.res || pureL xs) = true)
    {K : AVal → Store → Prop} (hk : ∀ rs S', resA ct.res (ct.fn a) S.length rs S' → K (retA rs) (S ++ S')) : ACalls P f ys S K := by
  have h := hc.2 a hp
  rw [Bool.or_eq_true] at hf
  rcases hf with hf | hf
  · refine h.lendR (fun E fz w vals stE hr => decAs_rel st3 (fun b hb => .inl hb) ct.args hd hs (.inr ⟨rfl, stE⟩) hr) fun r S' ⟨rs, hr, e⟩ => ?_
    subst e
    have hr' := resA_sh S.length ct.res _ 0 hr
    obtain ⟨g1, g2⟩ := res_plain ct.res _ 0 hf hr
    rw [Nat.zero_add] at hr'
    exact ⟨_, ret_le S.length rs, plain_ret (plain_sh _ g1), g2, hk _ _ hr'⟩
  · have h' : ACalls P f ys [] (resR ct.res (ct.fn a)) := ⟨fun E fz w vals stE hr => h.out E fz w vals stE (decAs_rel st3 (fun _ h => h) ct.args hd hs (.inl hf) hr)⟩
    refine h'.frame0 fun r S' ⟨rs, hr, e⟩ => ?_
    subst e
    have hr' := resA_sh S.length ct.res _ 0 hr
    rw [Nat.zero_add] at hr'
    exact ⟨_, id, S', ret_le S.length rs, .refl, hk _ _ hr'⟩

theorem ret_sim {H : HF} : ∀ {xs : List TV} {ys : List AVal}, SimL H xs ys → SimV H (retT xs) (retA ys)
  | [], _, h => by simp only [SimL] at h; subst h; simp only [retT, retA, SimV]; exact ⟨[], rfl, by simp [SimL]⟩
  | [x], _, h => by
    simp only [SimL] at h
    obtain ⟨y, zs, rfl, h1, rfl⟩ := h
    exact h1
  | x :: x' :: xs, ys, h => by
    have hl := h.length
    match ys, hl, h with
    | y :: y' :: ys, _, h => simp only [retT, retA, SimV]; exact ⟨_, rfl, h⟩

theorem con_use {P : Program} {f : FuncId} {ct : Ct} (hc : Con P f ct) (st3 : St3 H TS S) {xs : List TV} {a : Ts ct.args} {ys : List AVal} (hd : decAs TS ct.args xs = some a) (hp : ct.pre a) (hs : SimL H xs ys) (hf : (flatR ct.res || pureL xs) = true)
    {K : AVal → Store → Prop} (hk : ∀ r S' H', HLe H H' → St3 H' (TS ++ (resTV ct.res (ct.fn a) TS.length).2) S' → SimV H' (retT (resTV ct.res (ct.fn a) TS.length).1) r → K r S') : ACalls P f ys S K :=
  con_raw hc st3 hd hp hs hf fun rs S' hr => by
    obtain ⟨H', g1, g2, g3⟩ := res_push ct.res _ st3 hr
    exact hk _ _ H' g1 g2 (ret_sim g3)

def encsR : (rs : List RTy) → RTs rs → List AVal
  | [], _ => []
  | .val t :: rs, x => encA t (hdR (.val t) rs x) :: encsR rs (tlR (.val t) rs x)
  | .own t :: rs, x => encsR rs (tlR (.own t) rs x)
theorem val_det : ∀ (rs : List RTy) (x : RTs rs) (n : Nat) {ys : List AVal} {S : Store}, allVal rs = true → resA rs x n ys S → ys = encsR rs x ∧ S = []
  | [], _, n, ys, S, _, h => by simpa [resA, encsR] using h
  | .val t :: rs, x, n, ys, S, ha, h => by
    simp only [resA] at h
    obtain ⟨ys', rfl, h⟩ := h
    obtain ⟨e1, e2⟩ := val_det rs _ n (by simpa [allVal] using ha) h
    exact ⟨by rw [e1]; rfl, e2⟩
  | .own t :: rs, x, n, ys, S, ha, h => by simp [allVal] at ha
theorem val_sim {H : HF} : ∀ (rs : List RTy) (x : RTs rs) (n : Nat), allVal rs = true → SimL H (resTV rs x n).1 (encsR rs x)
  | [], _, n, _ => by simp [resTV, encsR, SimL]
  | .val t :: rs, x, n, ha => by
    rw [resTV_val]
    simp only [encsR, SimL]
    exact ⟨_, _, rfl, tvA_sim _ _, val_sim rs _ n (by simpa [allVal] using ha)⟩
  | .own t :: rs, x, n, ha => by simp [allVal] at ha

theorem con_det {P : Program} {f : FuncId} {ct : Ct} (hc : Con P f ct) (st3 : St3 H TS S) {xs : List TV} {a : Ts ct.args} {ys : List AVal} (hd : decAs TS ct.args xs = some a) (hp : ct.pre a) (hs : SimL H xs ys) (hf : (flatR ct.res || pureL xs) = true)
    (hv : allVal ct.res = true) : ∃ r0, SimV H (retT (resTV ct.res (ct.fn a) 0).1) r0 ∧ ACalls P f ys S (fun r S' => r = r0 ∧ S' = S) :=
  ⟨retA (encsR ct.res (ct.fn a)), ret_sim (val_sim _ _ _ hv), con_raw hc st3 hd hp hs hf fun rs S' hr => by
    obtain ⟨e1, e2⟩ := val_det _ _ _ hv hr
    subst e1; subst e2
    exact ⟨rfl, by simp⟩⟩
end
end Go.Vc
