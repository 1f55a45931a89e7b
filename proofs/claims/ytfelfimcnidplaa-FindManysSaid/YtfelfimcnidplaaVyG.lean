/-
  The operations that leave the store as it is, one by one.
-/
import Derived.Test.YtfelfimcnidplaaVyF
set_option linter.unusedVariables false
set_option linter.unusedSimpArgs false
namespace Go.Vc

theorem wLoad_ptr {S : Store} {n l v off : Nat} {ag : Bool} {K : AVal → Prop} {k : Nat} {cs xs : List AVal} (hl : S[l]? = some (.row v k cs)) (hx : takeN n (cs.drop off) = some xs) (hk : mkVK ag xs K) : wLoad S n ag (.ptr l v off) K := by
  simp only [wLoad]
  refine wRow_iff.2 ⟨k, cs, hl, ?_⟩
  cases k with
  | zero => simp only [dropK_iff, takeK_iff]; exact ⟨xs, hx, hk⟩
  | succ k => exact ⟨xs, hx, hk⟩

theorem mkVT_sound {H : HF} {ag : Bool} {xs : List TV} {y : TV} {ys : List AVal} {K : AVal → Prop} (h : mkVT ag xs = some y) (hs : SimL H xs ys) (hk : ∀ z, SimV H y z → K z) : mkVK ag ys K := by
  cases ag
  · unfold mkVT at h
    simp only at h
    split at h <;> cases h
    simp only [SimL] at hs
    obtain ⟨z, zs, rfl, h1, rfl⟩ := hs
    exact hk _ h1
  · simp only [mkVT] at h
    cases h
    exact hk _ (by simp only [SimV]; exact ⟨_, rfl, hs⟩)

theorem gt_get {α : Type} {d : α} {l : List α} {i : Int} (h0 : 0 ≤ i) (h1 : i < l.length) : ∃ hi : i.toNat < l.length, @gt α ⟨d⟩ l i = l[i.toNat] := by
  have hi : i.toNat < l.length := by omega
  exact ⟨hi, by simp [gt, List.getD_eq_getElem?_getD, List.getElem?_eq_getElem hi]⟩

theorem row_take {H : HF} {t : Ty} {ls : List (T t)} {i : Int} (h0 : 0 ≤ i) (h1 : i < ls.length) {n fo : Nat} {xs : List TV} (h : takeG n ((cellsT t (@gt (T t) ⟨zT t⟩ ls i)).drop fo) = some xs) :
    ∃ ys, takeN n ((ls.flatMap (encT t)).drop (i.toNat * szT t + fo)) = some ys ∧ SimL H xs ys := by
  obtain ⟨hi, e⟩ := gt_get (d := zT t) h0 h1
  rw [e] at h
  obtain ⟨ys, g1, g2⟩ := ((cellsT_sim (H := H) t ls[i.toNat]).drop fo).takeG h
  refine ⟨ys, ?_, g2⟩
  obtain ⟨e1, e2⟩ := takeN_eq g1
  simp only [List.length_drop, encT_length] at e2
  by_cases hn : n = 0
  · subst hn; simp [takeN] at g1 ⊢; exact g1
  · rw [take_flat (encT_length t) hi fo n (by omega), e1]

theorem pickN_sound {H : HF} {k : Nat} {i : Int} {ag : Bool} {cs : List TV} {xs : List AVal} (hs : SimL H cs xs) {K : AVal → Prop} : ∀ (n j : Nat) {z : TV}, pickN k i ag cs n j = some z → (j : Int) ≤ i → i < (j : Int) + n → (∀ u, SimV H z u → K u) →
    ∃ ys, takeN k (xs.drop (i.toNat * k)) = some ys ∧ mkVK ag ys K
  | 0, j, z, h, h1, h2, hk => by simp [pickN] at h
  | n + 1, j, z, h, h1, h2, hk => by
    unfold pickN at h
    split at h
    · rename_i ts ht
      split at h
      · rename_i x hx
        split at h
        · cases h
          have : i.toNat = j := by omega
          rw [this]
          obtain ⟨ys, g1, g2⟩ := (hs.drop (j * k)).takeG ht
          exact ⟨ys, g1, mkVT_sound hx g2 hk⟩
        · rename_i n
          split at h
          · rename_i y hy
            have g := pickV_sound (H := H) h
            by_cases e : i = (j : Int)
            · have : i.toNat = j := by omega
              rw [this]
              obtain ⟨ys, g1, g2⟩ := (hs.drop (j * k)).takeG ht
              exact ⟨ys, g1, mkVT_sound hx g2 fun u hu => hk u (g.1 e u hu)⟩
            · exact pickN_sound hs (n + 1) (j + 1) hy (by omega) (by omega) fun u hu => hk u (g.2 e u hu)
          · cases h
      · cases h
    · cases h

theorem minV_sound {H : HF} {k : IntKind} {K : AVal → Prop} : ∀ (r : List TV) (a : Int) {y : TV} {ys : List AVal}, minV k a r = some y → SimL H r ys → (∀ z, SimV H y z → K z) → vcMin (.int k a) K ys
  | [], a, y, ys, h, hs, hk => by simp only [SimL] at hs; subst hs; simp only [minV, Option.some.injEq] at h; subst h; exact hk _ (by simp [SimV])
  | x :: r, a, y, ys, h, hs, hk => by
    unfold minV at h
    split at h <;> first | (cases h; done) | skip
    · rename_i e; cases e
    · rename_i e; cases e
      split at h
      · rename_i hkk
        have hkk := kEq_eq hkk
        subst hkk
        simp only [SimL, SimV] at hs
        obtain ⟨z, zs, rfl, rfl, hs⟩ := hs
        simp only [vcMin]
        exact ⟨trivial, minV_sound r _ h hs hk⟩
      · cases h
theorem maxV_sound {H : HF} {k : IntKind} {K : AVal → Prop} : ∀ (r : List TV) (a : Int) {y : TV} {ys : List AVal}, maxV k a r = some y → SimL H r ys → (∀ z, SimV H y z → K z) → vcMax (.int k a) K ys
  | [], a, y, ys, h, hs, hk => by simp only [SimL] at hs; subst hs; simp only [maxV, Option.some.injEq] at h; subst h; exact hk _ (by simp [SimV])
  | x :: r, a, y, ys, h, hs, hk => by
    unfold maxV at h
    split at h <;> first | (cases h; done) | skip
    · rename_i e; cases e
    · rename_i e; cases e
      split at h
      · rename_i hkk
        have hkk := kEq_eq hkk
        subst hkk
        simp only [SimL, SimV] at hs
        obtain ⟨z, zs, rfl, rfl, hs⟩ := hs
        simp only [vcMax]
        exact ⟨trivial, maxV_sound r _ h hs hk⟩
      · cases h

theorem decL_sim {H : HF} {t : Ty} : ∀ (n : Nat) {cs : List TV} {xs : List (T t)} {ys : List AVal}, decL t n cs = some xs → SimL H cs ys → xs.length = n ∧ ys = xs.flatMap (encT t)
  | 0, cs, xs, ys, h, hs => by
    cases cs <;> simp [decL] at h
    subst h
    simp only [SimL] at hs
    subst hs
    simp
  | n + 1, cs, xs, ys, h, hs => by
    simp only [decL] at h
    split at h
    · rename_i x r h1
      split at h <;> cases h
      rename_i xs' h2
      obtain ⟨zs, rfl, g1⟩ := decC_sim t h1 hs
      obtain ⟨g2, rfl⟩ := decL_sim n h2 g1
      exact ⟨by simp [g2], by simp⟩
    · cases h

section
variable {P : Program} {H : HF} {TS : List TOb} {S : Store} {F : RF} {A : Frame} {path : List (Nat × Bool)} {Γ : List (Nat × Ct)} {ht : Option Ty}

theorem loV_sim (hF : SimF H F A) (hp : holds A path) {r : Option Rand} {a : Int} (h : loV F path r = some a) {K : Nat → Prop} (h0 : 0 ≤ a) (hk : K a.toNat) : wLo A r K := by
  cases r with
  | none => simp only [loV, Option.some.injEq] at h; subst h; exact hk
  | some r =>
    simp only [loV] at h
    split at h
    · rename_i x hx
      split at h <;> cases h
      rename_i k hi
      have := asI_sim hi (rdP_sim hF hp hx)
      simp only [wLo, rdK_iff, this, wIdx]
      exact ⟨a.toNat, by omega, hk⟩
    · cases h
theorem hiV_sim (hF : SimF H F A) (hp : holds A path) {r : Option Rand} {a : Int} {n : Nat} (h : hiV F path (n : Int) r = some a) {K : Nat → Prop} (h0 : 0 ≤ a) (hk : K a.toNat) : wHi A n r K := by
  cases r with
  | none => simp only [hiV, Option.some.injEq] at h; subst h; simpa [wHi] using hk
  | some r =>
    simp only [hiV] at h
    split at h
    · rename_i x hx
      split at h <;> cases h
      rename_i k hi
      have := asI_sim hi (rdP_sim hF hp hx)
      simp only [wHi, rdK_iff, this, wIdx]
      exact ⟨a.toNat, by omega, hk⟩
    · cases h

theorem pickG_sound (hF : SimF H F A) {n : Nat} {a b : Rand} {gs : List (Nat × Bool)} {Q : Prop} {p : Prop} (hl : lookN F n = some (gs, Q, .gd p)) (hg : holds A gs) {x y z : TV}
    (hx : rdP F ((n, true) :: gs) a = some x) (hy : rdP F ((n, false) :: gs) b = some y) (hz : pickV p x y = some z) {K : AVal → Store → Prop} (hk : ∀ u, SimV H z u → K u S) : vcOp P A S K (.pick (.t n) a b) := by
  have sc := (hF _ _ _ _ hl).on hg
  have g := pickV_sound (H := H) hz
  simp only [vcOp, rdK_iff, rd]
  simp only [SimV] at sc
  rcases sc with ⟨e, hp'⟩ | ⟨e, hp'⟩ <;> rw [e]
  · exact hk _ (g.1 hp' _ (rdP_sim hF (fun q hq => by
      rcases List.mem_cons.1 hq with rfl | hq
      · simpa using e
      · exact hg q hq) hx))
  · exact hk _ (g.2 hp' _ (rdP_sim hF (fun q hq => by
      rcases List.mem_cons.1 hq with rfl | hq
      · simpa using e
      · exact hg q hq) hy))
theorem pickQ_sound (hF : SimF H F A) (hp : holds A path) {n : Nat} {a b : Rand} {gs : List (Nat × Bool)} {Q : Prop} {c : TV} (hl : lookN F n = some (gs, Q, c)) (hg : holds A gs) {p : Prop} (hc : asQ c = some p) {x y z : TV}
    (hx : rdP F path a = some x) (hy : rdP F path b = some y) (hz : pickV p x y = some z) {K : AVal → Store → Prop} (hk : ∀ u, SimV H z u → K u S) : vcOp P A S K (.pick (.t n) a b) := by
  obtain ⟨u, e, hu⟩ := asQ_sim hc ((hF _ _ _ _ hl).on hg)
  have g := pickV_sound (H := H) hz
  simp only [vcOp, rdK_iff, rd]
  rw [e]
  exact ⟨fun e => hk _ (g.1 (hu.1 e) _ (rdP_sim hF hp hx)), fun e => hk _ (g.2 (fun q => by rw [hu.2 q] at e; cases e) _ (rdP_sim hF hp hy))⟩


theorem partV_sound {ag : Bool} {n : Nat} {cs : List TV} {ps : List Prop} {y : TV} (h : partV ag n cs = some (ps, y)) {H : HF} {K : AVal → Prop} (hk : ∀ z, SimV H y z → K z) : ∃ xs, takeG n cs = some xs ∧ ∀ ys, SimL H xs ys → mkVK ag ys K := by
  unfold partV at h
  split at h
  · rename_i xs hx
    split at h <;> cases h
    rename_i hm
    exact ⟨xs, hx, fun ys hs => mkVT_sound hm hs hk⟩
  · cases h

theorem sub_row {t : Ty} {ls : List (List (T t))} {sub : List (Option (Nat × Nat) × Nat)} {i : Int} {q : Option (Nat × Nat) × Nat} (h : SubsAt S t ls sub) (h0 : 0 ≤ i) (hq : sub[i.toNat]? = some q) : i < ls.length ∧ q.2 = (gt ls i).length ∧ RowAt S t (gt ls i) q.1 := by
  have hi := (List.getElem?_eq_some_iff.1 hq).1
  rw [h.len] at hi
  have e : gt ls i = ls[i.toNat] := by simp [gt, List.getD_eq_getElem?_getD, List.getElem?_eq_getElem hi]
  rw [e]
  obtain ⟨a, b⟩ := h.at_ i.toNat _ q (List.getElem?_eq_getElem hi) hq
  exact ⟨by omega, a, b⟩
theorem load_sound' (st : St3 H TS S) {n : Nat} {ag : Bool} {x : TV} {X : AVal} {ps : List Prop} {y : TV} (h : evLoad TS n ag x = some (ps, y)) (hx : SimV H x X) {K : AVal → Prop} (hk : ∀ z, SimV H y z → K z) : wLoad S n ag X K := by
  unfold evLoad at h
  split at h
  · simp only [SimV] at hx
    obtain ⟨xs, rfl, hx⟩ := hx
    obtain ⟨zs, h1, h2⟩ := partV_sound h hk
    obtain ⟨ys, g1, g2⟩ := hx.takeG h1
    simp only [wLoad, takeK_iff]
    exact ⟨ys, g1, h2 _ g2⟩
  · split at h
    · rename_i k cs ho
      simp only [SimV] at hx
      obtain ⟨hd, p, v, e1, e2, rfl⟩ := hx
      obtain ⟨p', v', xs, q1, q2, q3⟩ := cells_get st ho
      rw [q1] at e1; cases e1; cases e2
      obtain ⟨zs, h1, h2⟩ := partV_sound h hk
      obtain ⟨ys, g1, g2⟩ := (q3.drop _).takeG h1
      exact wLoad_ptr q2 g1 (h2 _ g2)
    · cases h
  · rename_i l i fo
    split at h
    · rename_i t ls ho
      simp only [SimV] at hx
      obtain ⟨hd, p, v, e1, e2, e3, e4, rfl⟩ := hx
      obtain ⟨loc, q1, q2⟩ := row_get st ho
      rw [q1] at e1; cases e1
      simp only at e2 e4
      subst e2
      obtain ⟨zs, h1, h2⟩ := partV_sound h hk
      obtain ⟨ys, g1, g2⟩ := row_take e3 (by exact_mod_cast e4) h1
      exact wLoad_ptr q2 g1 (h2 _ g2)
    · rename_i t ls ho
      split at h <;> cases h
      simp only [SimV] at hx
      obtain ⟨hd, p, v, e1, e2, e3, e4, rfl⟩ := hx
      obtain ⟨p', v', sub, q1, q2, q3⟩ := drow_get st ho
      rw [q1] at e1; cases e1; cases e2
      simp only at e4
      obtain ⟨q, hq⟩ : ∃ q, sub[i.toNat]? = some q := ⟨_, List.getElem?_eq_getElem (by rw [q3.len]; omega)⟩
      refine wLoad_ptr q2 (xs := [subA q]) ?_ ?_
      · rw [Nat.mul_one, Nat.add_zero]
        have : (sub.map subA)[i.toNat]? = some (subA q) := by rw [List.getElem?_map, hq]; rfl
        obtain ⟨hi, hv⟩ := List.getElem?_eq_some_iff.1 this
        rw [List.drop_eq_getElem_cons hi, hv]
        simp [takeN]
      · simp only [mkVK]
        exact hk _ (by simp only [SimV]; exact ⟨_, q, q1, e3, hq, rfl⟩)
    · cases h
  · split at h
    · rename_i t ls ho
      split at h
      · rename_i hz
        have hsz := beq_eq hz
        simp only [SimV] at hx
        obtain ⟨hd, p, v, m, e1, e2, e3, e4, e5, rfl⟩ := hx
        obtain ⟨p', v', sub, q1, q2, q3⟩ := drow_get st ho
        rw [q1] at e1; cases e1
        obtain ⟨r1, r2, r3⟩ := sub_row q3 e2 e3
        obtain ⟨zs, h1, h2⟩ := partV_sound h hk
        simp only at r2
        obtain ⟨ys, g1, g2⟩ := row_take e4 (by omega) h1
        rw [hsz] at g1
        exact wLoad_ptr r3 g1 (h2 _ g2)
      · cases h
    · cases h
  · cases h

theorem slice0_sound (hF : SimF H F A) (hp : holds A path) {x : TV} {r : Rand} {lo hi : Option Rand} {ps : List Prop} {y : TV} (h : evSlice0 F path x lo hi = some (ps, y)) (hps : AllP ps) (hx : SimV H x (rd A r)) {K : AVal → Store → Prop} (hk : ∀ z, SimV H y z → K z S) :
    vcOp P A S K (.slice 0 r lo hi) := by
  simp only [vcOp, rdK_iff]
  unfold evSlice0 at h
  split at h
  · rename_i s
    simp only [SimV] at hx
    rw [hx]
    split at h
    · rename_i a b ha hb
      cases h
      have h1 := hps.cons
      have h2 := h1.2.cons
      have h3 := h2.2.cons
      refine hiV_sim hF hp hb (by omega) (loV_sim hF hp ha h1.1 ⟨?_, ?_, hk _ (by simp [SimV])⟩)
      · have := h2.1; omega
      · have := h3.1; have := h1.1; have := h2.1; omega
    · cases h
  · cases h

theorem ros_sub {t : Ty} {l : List (T t)} {a b : Nat} (h1 : a ≤ b) (h2 : b ≤ l.length) : subL (l.flatMap (encT t)) (a * szT t) ((b - a) * szT t) = ((l.take b).drop a).flatMap (encT t) ∧ ((l.take b).drop a).length = b - a := by
  have e : (l.take b).drop a = (l.drop a).take (b - a) := by rw [List.drop_take]
  refine ⟨?_, by simp; omega⟩
  rw [e, subL, flat_part l a (b - a), List.take_left']
  rw [flatMap_length (encT_length t), List.length_take, List.length_drop]
  congr 1
  omega

theorem St3.noloc (st : St3 H TS S) {l : Nat} {hd : Hd} (hl : H l = some hd) (hn : hd.loc = none) : hd.len = 0 := by
  have hlt : l < TS.length := by
    rcases Nat.lt_or_ge l TS.length with q | q
    · exact q
    · rw [st.out l q] at hl; cases hl
  obtain ⟨o, ho⟩ : ∃ o, TS[l]? = some o := ⟨_, List.getElem?_eq_getElem hlt⟩
  have := st.ob l o ho
  cases o with
  | dead => simp only [ObS] at this; rw [this] at hl; cases hl
  | cells k cs => obtain ⟨p, v, xs, q1, _⟩ := this; rw [q1] at hl; cases hl; cases hn
  | row t ls => obtain ⟨loc, q1, q2⟩ := this; rw [q1] at hl; cases hl; simp only at hn; subst hn; simp only [RowAt] at q2; simp [q2]
  | drow t ls => obtain ⟨p, v, sub, q1, _⟩ := this; rw [q1] at hl; cases hl; cases hn

theorem slice1_sound (st : St3 H TS S) (hF : SimF H F A) (hp : holds A path) {k : Nat} {x : TV} {r : Rand} {lo hi : Option Rand} {ps : List Prop} {y : TV} (h : evSlice1 F path TS (k + 1) x lo hi = some (ps, y)) (hps : AllP ps) (hx : SimV H x (rd A r)) {K : AVal → Store → Prop} (hk : ∀ z, SimV H y z → K z S) :
    vcOp P A S K (.slice (k + 1) r lo hi) := by
  simp only [vcOp, rdK_iff]
  have main : ∀ {l : Nat} {t : Ty} {ls : List (T t)} {loc : Option (Nat × Nat)} {off len : Int} {a b : Int}, H l = some ⟨loc, szT t, ls.length, []⟩ → RowAt S t ls loc → szT t = k + 1 → 0 ≤ off → 0 ≤ len → off + len ≤ ls.length → loV F path lo = some a → hiV F path len hi = some b → 0 ≤ a → a ≤ b → b ≤ len →
      (∀ z, SimV H (.sl l (off + a) (b - a)) z → K z S) → (match slA loc (off.toNat * szT t) len.toNat with
      | .ros n cs => wHi A n hi fun h => wLo A lo fun j => j ≤ h ∧ h ≤ n ∧ n * (k + 1) ≤ cs.length ∧ K (.ros (h - j) (subL cs (j * (k + 1)) ((h - j) * (k + 1)))) S
      | .sl l v off n => wHi A n hi fun h => wLo A lo fun j => j ≤ h ∧ h ≤ n ∧ wRow S l v fun k' _ => k' = k + 1 ∧ K (.sl l v (off + j * (k + 1)) (h - j)) S
      | .nils => wHi A 0 hi fun h => wLo A lo fun j => j = 0 ∧ h = 0 ∧ K .nils S
      | _ => False) := by
    intro l t ls loc off len a b h1 h2 hsz h0 hl hol ha hb q0 q1 q2 hk
    have hb' : hiV F path ((len.toNat : Nat) : Int) hi = some b := by rw [Int.toNat_of_nonneg hl]; exact hb
    cases loc with
    | none =>
      simp only [RowAt] at h2
      subst h2
      simp only [List.length_nil] at hol
      have : len.toNat = 0 := by omega
      simp only [slA]
      rw [this] at hb'
      refine hiV_sim hF hp hb' (by omega) (loV_sim hF hp ha q0 ⟨by omega, by omega, hk _ ?_⟩)
      simp only [SimV]
      exact ⟨_, h1, by omega, by omega, by simp only [List.length_nil]; omega, rfl⟩
    | some q =>
      obtain ⟨p, v⟩ := q
      simp only [slA]
      refine hiV_sim hF hp hb' (by omega) (loV_sim hF hp ha q0 ⟨by omega, by omega, wRow_iff.2 ⟨_, _, h2, hsz, hk _ ?_⟩⟩)
      simp only [SimV]
      refine ⟨_, h1, by omega, by omega, by simp only; omega, ?_⟩
      simp only [slA]
      rw [← hsz, show (off + a).toNat = off.toNat + a.toNat by omega, Nat.add_mul, show (b - a).toNat = b.toNat - a.toNat by omega]
  unfold evSlice1 at h
  split at h
  · rename_i t l
    simp only [SimV] at hx
    rw [hx]
    split at h
    · rename_i a b ha hb hz
      cases h
      have h1 := hps.cons
      have h2 := h1.2.cons
      have h3 := h2.2.cons
      have hsz := beq_eq hz
      have g1 := h1.1
      have g2 := h2.1
      have g3 := h3.1
      obtain ⟨e1, e2⟩ := ros_sub (t := t) (l := l) (a := a.toNat) (b := b.toNat) (by omega) (by omega)
      refine hiV_sim hF hp hb (by omega) (loV_sim hF hp ha g1 ⟨by omega, by omega, ?_, ?_⟩)
      · rw [flatMap_length (encT_length t), hsz]; exact Nat.le_refl _
      · rw [← hsz, e1]
        refine hk _ ?_
        simp only [SimV]
        rw [e2]
    · cases h
  · split at h
    · rename_i l t ls ho
      simp only [SimV] at hx
      obtain ⟨hd, e1, hx⟩ := hx
      rw [hx]
      obtain ⟨loc, q1, q2⟩ := row_get st ho
      rw [q1] at e1; cases e1
      split at h
      · rename_i a b ha hb hz
        cases h
        have h1 := hps.cons
        have h2 := h1.2.cons
        have h3 := h2.2.cons
        have := main (off := 0) (len := ls.length) q1 q2 (beq_eq hz) (by omega) (by omega) (by omega) ha hb h1.1 h2.1 h3.1 (by rw [Int.zero_add]; exact hk)
        simp only [Int.toNat_zero, Nat.zero_mul, Int.toNat_natCast] at this
        exact this
      · cases h
    · cases h
  · split at h
    · rename_i l off len t ls ho
      simp only [SimV] at hx
      obtain ⟨hd, e1, e2, e3, e4, hx⟩ := hx
      rw [hx]
      obtain ⟨loc, q1, q2⟩ := row_get st ho
      rw [q1] at e1; cases e1
      split at h
      · rename_i a b ha hb hz
        cases h
        have h1 := hps.cons
        have h2 := h1.2.cons
        have h3 := h2.2.cons
        exact main q1 q2 (beq_eq hz) e2 e3 (by exact_mod_cast e4) ha hb h1.1 h2.1 h3.1 hk
      · cases h
    · cases h
  · simp only [SimV] at hx
    rw [hx]
    split at h
    · rename_i a b ha hb
      cases h
      have h1 := hps.cons
      have h2 := h1.2.cons
      refine hiV_sim hF hp (n := 0) hb (by have := h2.1; omega) (loV_sim hF hp ha (by have := h1.1; omega) ⟨?_, ?_, hk _ (by simp [SimV])⟩)
      · have := h1.1; omega
      · have := h2.1; omega
    · cases h
  · cases h

theorem bytes_enc (s : List UInt8) : (s.map fun c => AVal.int .u8 (c.toNat : Int)) = List.flatMap (encT (.int .u8)) (s.map fun c => (c.toNat : Int)) := by
  induction s with
  | nil => rfl
  | cons c s ih => exact congrArg (AVal.int .u8 (c.toNat : Int) :: ·) ih
/-- What is appended, as cells. -/
theorem srcV_sound (st : St3 H TS S) {t : Ty} {y : TV} {Y : AVal} {ys : List (T t)} (h0 : srcV TS t y = some ys) (hs : SimV H y Y) {K : Nat → List AVal → Prop} (hk : K ys.length (ys.flatMap (encT t))) : wSrc S (szT t) Y K := by
  have main : decS TS t y = some ys → wSrc S (szT t) Y K := fun h => by
    unfold decS at h
    split at h
    · rename_i e l
      split at h <;> cases h
      rename_i hh _
      subst hh
      simp only [SimV] at hs
      subst hs
      simp only [wSrc]
      have := flatMap_length (encT_length e) l
      refine ⟨by rw [this]; exact Nat.le_refl _, ?_⟩
      rw [List.take_of_length_le (by rw [this]; exact Nat.le_refl _)]
      exact hk
    · cases h
      simp only [SimV] at hs
      subst hs
      exact hk
    · split at h
      · rename_i e ls ho
        split at h <;> cases h
        rename_i hh _
        subst hh
        obtain ⟨loc, h1, h2⟩ := row_get st ho
        simp only [SimV] at hs
        obtain ⟨hd, g1, rfl⟩ := hs
        rw [h1] at g1; cases g1
        cases loc with
        | none => simp only [RowAt] at h2; subst h2; exact hk
        | some q =>
          obtain ⟨p, v⟩ := q
          simp only [slA, wSrc]
          have := flatMap_length (encT_length e) ls
          refine wRow_iff.2 ⟨_, _, h2, by rw [this]; omega, ?_⟩
          rw [subL, List.drop_zero, List.take_of_length_le (by rw [this]; exact Nat.le_refl _)]
          exact hk
      · cases h
    · rename_i l off len
      split at h
      · rename_i e ls ho
        split at h <;> cases h
        rename_i hh _
        subst hh
        obtain ⟨loc, h1, h2⟩ := row_get st ho
        simp only [SimV] at hs
        obtain ⟨hd, g1, g2, g3, g4, rfl⟩ := hs
        rw [h1] at g1; cases g1
        simp only at g4
        have hlen : ((ls.drop off.toNat).take len.toNat).length = len.toNat := by simp; omega
        rw [hlen] at hk
        cases loc with
        | none =>
          simp only [RowAt] at h2; subst h2
          simp only [List.length_nil] at g4
          have : len.toNat = 0 := by omega
          rw [this] at hk
          simpa [slA, wSrc] using hk
        | some q =>
          obtain ⟨p, v⟩ := q
          simp only [slA, wSrc]
          have e1 := flatMap_length (encT_length e) ls
          refine wRow_iff.2 ⟨_, _, h2, ?_, ?_⟩
          · rw [e1, ← Nat.add_mul]
            exact Nat.mul_le_mul_right _ (by omega)
          · have e2 := flatMap_length (encT_length e) ((ls.drop off.toNat).take len.toNat)
            rw [hlen] at e2
            rw [subL, flat_part ls off.toNat len.toNat, List.take_left' e2]
            exact hk
      · cases h
    · cases h
  unfold srcV at h0
  split at h0
  · rename_i s
    split at h0 <;> cases h0
    simp only [SimV] at hs
    subst hs
    simp only [wSrc, szT]
    refine ⟨trivial, ?_⟩
    have e : (s.map fun c => AVal.int .u8 (c.toNat : Int)) = (s.map fun c => (c.toNat : Int)).flatMap (encT (.int .u8)) := by
      clear hk
      induction s with
      | nil => rfl
      | cons c s ih => exact congrArg (AVal.int .u8 (c.toNat : Int) :: ·) (ih (fun h => nomatch h))
    rw [e]
    have e2 : List.length (α := T (.int .u8)) (s.map fun c => (c.toNat : Int)) = s.length := List.length_map _
    exact Eq.mp (congrArg (fun n => K n (List.flatMap (encT (Ty.int IntKind.u8)) (List.map (fun c => (c.toNat : Int)) s))) e2) hk
  · exact main h0

theorem ints_enc : ∀ l : List (T (.int .u8)), l.flatMap (encT (.int .u8)) = List.map (AVal.int .u8) (l : List Int)
  | [] => rfl
  | n :: l => congrArg (AVal.int .u8 n :: ·) (ints_enc l)
theorem bytes_sound (st : St3 H TS S) {y : TV} {Y : AVal} {l : List (T (.int .u8))} (h0 : decS TS (.int .u8) y = some l) (hs : SimV H y Y) {K : List UInt8 → Prop} (hk : K (List.map (fun n : Int => UInt8.ofNat n.toNat) l)) : wBytes S Y K := by
  have hns : ∀ s, y ≠ .str s := fun s e => by subst e; simp [decS] at h0
  have hsrc : srcV TS (.int .u8) y = some l := by
    unfold srcV
    split
    · exact (hns _ rfl).elim
    · exact h0
  have hsl : ∀ loc a b s, AVal.str s ≠ slA loc a b := fun loc a b s e => by
    cases loc with
    | none => simp [slA] at e
    | some q => obtain ⟨_, _⟩ := q; simp [slA] at e
  have hnY : ∀ s, Y ≠ .str s := fun s e => by
    subst e
    cases y <;> simp only [decS] at h0 <;> first | (cases h0; done) | skip
    all_goals simp only [SimV] at hs
    · cases hs
    · cases hs
    · obtain ⟨_, _, e⟩ := hs; exact hsl _ _ _ _ e
    · obtain ⟨_, _, _, _, _, e⟩ := hs; exact hsl _ _ _ _ e
  have h1 := srcV_sound (K := fun n ys => n = l.length ∧ ys = l.flatMap (encT (.int .u8))) st hsrc hs ⟨rfl, rfl⟩
  rw [ints_enc] at h1
  simp only [szT] at h1
  cases Y <;> simp only [wSrc] at h1 <;> simp only [wBytes]
  case nils =>
    have : l = [] := List.length_eq_zero_iff.1 h1.1.symm
    subst this
    exact hk
  case ros n cs =>
    simp only [Nat.mul_one] at h1
    exact ⟨h1.1, _, h1.2.2, hk⟩
  case sl q v off n =>
    obtain ⟨k', cs, g1, g2, g3, g4⟩ := wRow_iff.1 h1
    rw [Nat.mul_one] at g2 g4
    exact wRow_iff.2 ⟨k', cs, g1, g2, _, g4, hk⟩
  case str s => exact (hnY s rfl).elim

mutual
/-- An operation that leaves the store as it is. -/
theorem eqB_sim : ∀ {z b : TV} {qs : List Prop} {y Y : AVal}, eqB z b = some qs → AllP qs → SimV H z y → SimV H b Y → y = Y := by
  intro z b qs y Y h hp hy hb
  unfold eqB at h
  split at h
  · split at h <;> cases h
    rename_i hk
    have := kEq_eq hk
    subst this
    have := hp _ (List.mem_singleton.2 rfl)
    simp only [SimV] at hy hb
    rw [hy, hb, this]
  · cases h
    have := hp _ (List.mem_singleton.2 rfl)
    simp only [SimV] at hy hb
    rw [hy, hb, this]
  · cases h
    have := hp _ (List.mem_singleton.2 rfl)
    simp only [SimV] at hy hb
    rw [hy, hb, this]
  · split at h <;> cases h
    rename_i he _
    subst he
    have := hp _ (List.mem_singleton.2 rfl)
    simp only at this
    subst this
    simp only [SimV] at hy hb
    rw [hy, hb]
  · split at h <;> cases h
    rename_i hl
    have := beq_eq hl
    subst this
    simp only [SimV] at hy hb
    obtain ⟨h1, e1, rfl⟩ := hy
    obtain ⟨h2, e2, rfl⟩ := hb
    rw [e1] at e2; cases e2; rfl
  · split at h <;> cases h
    rename_i hl ho
    have := beq_eq hl
    subst this
    have := beq_eq ho
    subst this
    simp only [SimV] at hy hb
    obtain ⟨h1, p1, v1, e1, q1, rfl⟩ := hy
    obtain ⟨h2, p2, v2, e2, q2, rfl⟩ := hb
    rw [e1] at e2; cases e2
    rw [q1] at q2; cases q2; rfl
  · simp only [SimV] at hy hb
    obtain ⟨x1, rfl, g1⟩ := hy
    obtain ⟨x2, rfl, g2⟩ := hb
    rw [eqBL_sim h hp g1 g2]
  · split at h
    · rename_i hf
      have := beq_eq hf
      subst this
      simp only [SimV] at hy hb
      obtain ⟨x1, rfl, g1⟩ := hy
      obtain ⟨x2, rfl, g2⟩ := hb
      rw [eqBL_sim h hp g1 g2]
    · cases h
  · cases h
theorem eqBL_sim : ∀ {z b : List TV} {qs : List Prop} {y Y : List AVal}, eqBL z b = some qs → AllP qs → SimL H z y → SimL H b Y → y = Y
  | [], [], qs, y, Y, h, hp, hy, hb => by
    simp only [SimL] at hy hb
    rw [hy, hb]
  | [], _ :: _, qs, y, Y, h, hp, hy, hb => by simp [eqBL] at h
  | _ :: _, [], qs, y, Y, h, hp, hy, hb => by simp [eqBL] at h
  | z :: zs, b :: bs, qs, y, Y, h, hp, hy, hb => by
    simp only [eqBL] at h
    split at h
    · rename_i ps rs h1 h2
      cases h
      simp only [SimL] at hy hb
      obtain ⟨y1, y2, rfl, g1, g2⟩ := hy
      obtain ⟨Y1, Y2, rfl, k1, k2⟩ := hb
      rw [eqB_sim h1 (fun p hp' => hp p (List.mem_append_left _ hp')) g1 k1, eqBL_sim h2 (fun p hp' => hp p (List.mem_append_right _ hp')) g2 k2]
    · cases h
end
theorem evP_sound (hΓ : Cons P Γ) (st : St3 H TS S) (hF : SimF H F A) (hp : holds A path) {so : SOp} {ps : List Prop} {y : TV} (h : evP Γ ht F path TS so = some (ps, y)) (hps : AllP ps) {K : AVal → Store → Prop} (hk : ∀ z, SimV H y z → K z S) :
    vcOpD P A S K so := by
  have w1 : ∀ {x : Rand} {f : TV → Option (List Prop × TV)}, with1 F path x f = some (ps, y) → ∃ a, f a = some (ps, y) ∧ SimV H a (rd A x) := fun {x f} h => by
    unfold with1 at h
    split at h
    · rename_i a hx; exact ⟨a, h, rdP_sim hF hp hx⟩
    · cases h
  have w2 : ∀ {x z : Rand} {f : TV → TV → Option (List Prop × TV)}, with2 F path x z f = some (ps, y) → ∃ a b, f a b = some (ps, y) ∧ SimV H a (rd A x) ∧ SimV H b (rd A z) := fun {x z f} h => by
    unfold with2 at h
    split at h
    · rename_i a b hx hz; exact ⟨a, b, h, rdP_sim hF hp hx, rdP_sim hF hp hz⟩
    · cases h
  have wi : ∀ {x z : Rand} {f : TV → Int → Option (List Prop × TV)}, withI F path x z f = some (ps, y) → ∃ a k j, f a j = some (ps, y) ∧ SimV H a (rd A x) ∧ rd A z = .int k j := fun {x z f} h => by
    unfold withI at h
    split at h
    · rename_i a b hx hz
      split at h
      · rename_i k j hi
        exact ⟨a, k, j, h, rdP_sim hF hp hx, asI_sim hi (rdP_sim hF hp hz)⟩
      · cases h
    · cases h
  cases so <;> simp only [evP] at h <;> (try (cases h; done)) <;> simp only [vcOpD]
  case mov x =>
    have h : (match rdP F path x with | some y => some ([], y) | none => none) = some (ps, y) := by
      unfold evMov at h
      split at h
      · cases h
      · exact h
    split at h <;> cases h
    rename_i hx
    simp only [vcOp, rdK_iff]
    exact hk _ (rdP_sim hF hp hx)
  case pick c a b =>
    unfold evPick at h
    split at h
    · split at h
      · rename_i gs Q c' hl
        split at h
        · rename_i hs
          have hg := sufx_holds hs hp
          unfold evPick1 at h
          split at h
          · split at h
            · rename_i hx hy
              split at h <;> cases h
              rename_i hz
              exact pickG_sound hF hl hg hx hy hz hk
            · cases h
          · split at h
            · rename_i hc hx hy
              split at h <;> cases h
              rename_i hz
              exact pickQ_sound hF hp hl hg hc hx hy hz hk
            · cases h
        · cases h
      · cases h
    · cases h
  case build z parts =>
    unfold evBuild at h
    split at h
    · rename_i cs hz
      split at h <;> cases h
      rename_i ys hf
      simp only [vcOp]
      exact fillT_sim hF hp hf (ofL_sim hz) fun ws hw => hk _ (by simp only [SimV]; exact ⟨_, rfl, hw⟩)
    · cases h
  case bslice ro len k z parts =>
    split at h
    · split at h <;> cases h
      rename_i t xs hl
      unfold evLit at hl
      split at hl
      · split at hl
        · rename_i hsz hf
          split at hl <;> cases hl
          rename_i hd
          rename_i cs hz _ _ _ _
          simp only [vcOp]
          refine fillT_sim hF hp hf (ofL_sim hz) fun ws hw => hk _ ?_
          obtain ⟨e1, rfl⟩ := decL_sim len hd hw
          simp only [SimV, e1]
        · cases hl
      · cases hl
    · cases h
  case load n ag x =>
    obtain ⟨a, h1, h2⟩ := w1 h
    simp only [vcOp, rdK_iff]
    exact load_sound' st h1 h2 hk
  case nilchk x =>
    obtain ⟨a, h1, h2⟩ := w1 h
    simp only [vcOp, rdK_iff]
    unfold evNilchk at h1
    split at h1 <;> cases h1 <;> have h3 := h2 <;> simp only [SimV] at h2
    · obtain ⟨xs, e, _⟩ := h2; rw [e] at h3 ⊢; exact hk _ h3
    · obtain ⟨_, _, _, _, _, e⟩ := h2; rw [e] at h3 ⊢; exact hk _ h3
    · obtain ⟨_, _, _, _, _, _, _, e⟩ := h2; rw [e] at h3 ⊢; exact hk _ h3
    · obtain ⟨_, _, _, _, _, _, _, _, _, e⟩ := h2; rw [e] at h3 ⊢; exact hk _ h3
    · obtain ⟨xs, e, _⟩ := h2; rw [e] at h3 ⊢; exact hk _ h3
  case bin q op x z =>
    obtain ⟨a, b, h1, h2, h3⟩ := w2 h
    simp only [vcOp, rdK_iff]
    exact binV_sound h1 h2 h3 hps hk
  case b2s x =>
    obtain ⟨a, h1, h2⟩ := w1 h
    simp only [vcOp, rdK_iff]
    split at h1 <;> cases h1
    rename_i l hl
    exact bytes_sound st hl h2 (hk _ (by simp [SimV]))
  case again t n ag x =>
    obtain ⟨a, b, h1, h2, h3⟩ := w2 h
    split at h1
    case h_2 => cases h1
    rename_i qs z hz
    split at h1 <;> cases h1
    rename_i rs hq
    simp only [vcOp, rdK_iff]
    refine load_sound' st hz h2 (fun y hy => ⟨eqB_sim hq (fun p hp => hps p (by simp [hp])) hy h3, hk _ (by simp [SimV])⟩)
  case strid x =>
    obtain ⟨a, h1, h2⟩ := w1 h
    simp only [vcOp, rdK_iff]
    split at h1 <;> cases h1
    simp only [SimV] at h2
    rw [h2]
    exact hk _ (by simp [SimV])
  case not x =>
    obtain ⟨a, h1, h2⟩ := w1 h
    simp only [vcOp, rdK_iff]
    unfold evNot at h1
    split at h1
    · cases h1
      simp only [SimV] at h2
      rw [h2]
      exact hk _ (by simp [SimV])
    · cases h1
      simp only [SimV] at h2
      rw [h2]
      exact hk _ (by simp [SimV])
    · split at h1 <;> cases h1
      rename_i p hp'
      exact asP_wBool hp' h2 fun b hb => pr_sim' (K := fun z => K z S) (by simp [← hb]) hk
  case neg x =>
    obtain ⟨a, h1, h2⟩ := w1 h
    simp only [vcOp, rdK_iff]
    split at h1 <;> simp only [Option.some.injEq, reduceCtorEq] at h1
    simp only [SimV] at h2
    rw [h2]
    have e1 := congrArg Prod.fst h1; have e2 := congrArg Prod.snd h1
    simp only at e1 e2; subst e1; subst e2
    exact mkI_sound (K := fun z => K z S) hps hk
  case conv k x =>
    obtain ⟨a, h1, h2⟩ := w1 h
    simp only [vcOp, rdK_iff]
    unfold convV at h1
    split at h1
    · simp only [Option.some.injEq] at h1
      simp only [SimV] at h2
      rw [h2]
      have e1 := congrArg Prod.fst h1; have e2 := congrArg Prod.snd h1
      simp only at e1 e2; subst e1; subst e2
      exact mkI_sound (K := fun z => K z S) hps hk
    · rename_i b
      simp only [SimV] at h2
      rw [h2]
      have hb : b.toNat < 256 := b.toNat_lt
      split at h1
      · cases h1
        exact ⟨⟨by omega, by omega⟩, hk _ (by simp [SimV])⟩
      · cases h1
        simp only [wInt, wMk]
        refine hk _ ?_
        simp only [SimV, IntKind.wrap, IntKind.bits, IntKind.signed]
        have e : ((b.toNat : Int) % 256) = b.toNat := by omega
        simp [e]
      · simp only [Option.some.injEq] at h1
        have e1 := congrArg Prod.fst h1; have e2 := congrArg Prod.snd h1
        simp only at e1 e2; subst e1; subst e2
        exact mkI_sound (K := fun z => K z S) hps hk
    · cases h1
  case slice k x lo hi =>
    obtain ⟨a, h1, h2⟩ := w1 h
    cases k with
    | zero => exact slice0_sound hF hp h1 hps h2 hk
    | succ k => exact slice1_sound st hF hp h1 hps h2 hk
  case faddr off x =>
    obtain ⟨a, h1, h2⟩ := w1 h
    simp only [vcOp, rdK_iff]
    unfold evFaddr at h1
    split at h1 <;> cases h1 <;> simp only [SimV] at h2
    · obtain ⟨hd, p, v, e1, e2, e⟩ := h2
      rw [e]
      exact hk _ (by simp only [SimV]; exact ⟨hd, p, v, e1, e2, rfl⟩)
    · obtain ⟨hd, p, v, e1, e2, e3, e4, e⟩ := h2
      rw [e]
      exact hk _ (by simp only [SimV]; exact ⟨hd, p, v, e1, e2, e3, e4, by rw [Nat.add_assoc]⟩)
    · obtain ⟨hd, p, v, m, e1, e2, e3, e4, e5, e⟩ := h2
      rw [e]
      exact hk _ (by simp only [SimV]; exact ⟨hd, p, v, m, e1, e2, e3, e4, e5, by rw [Nat.add_assoc]⟩)
    · obtain ⟨xs, e, hs⟩ := h2
      rw [e]
      simp only [dropK_iff]
      exact hk _ (by simp only [SimV]; exact ⟨_, rfl, hs.drop off⟩)
  case field off n ag x =>
    obtain ⟨a, h1, h2⟩ := w1 h
    simp only [vcOp, rdK_iff]
    unfold evField at h1
    split at h1
    · simp only [SimV] at h2
      obtain ⟨xs, e, hs⟩ := h2
      rw [e]
      obtain ⟨zs, g1, g2⟩ := partV_sound (K := fun z => K z S) h1 hk
      obtain ⟨ys, q1, q2⟩ := (hs.drop off).takeG g1
      simp only [dropK_iff, takeK_iff]
      exact ⟨ys, q1, g2 _ q2⟩
    · cases h1
  case iaddr k ar x i =>
    split at h
    · obtain ⟨a, kk, j, h1, h2, h3⟩ := wi h
      simp only [vcOp, rdK_iff, h3, wIdx]
      unfold evIaddr at h1
      split at h1
      · rename_i t l
        split at h1 <;> cases h1
        rename_i hz
        have g1 := hps.cons
        have g2 := g1.2.cons
        simp only [SimV] at h2
        rw [h2]
        have hsz := beq_eq hz
        refine ⟨j.toNat, by have := g1.1; omega, by have := g2.1; have := g1.1; omega, ?_⟩
        obtain ⟨hi, e⟩ := gt_get (d := zT t) g1.1 g2.1
        refine ⟨encT t l[j.toNat], by rw [← hsz]; exact take_flat0 (encT_length t) hi, hk _ ?_⟩
        simp only [SimV]
        exact ⟨_, rfl, by rw [e]; exact cellsT_sim t _⟩
      · rename_i l
        split at h1
        · rename_i t ls ho
          split at h1 <;> cases h1
          rename_i hz
          have g1 := hps.cons
          have g2 := g1.2.cons
          have hsz := beq_eq hz
          simp only [SimV] at h2
          obtain ⟨hd, e1, e⟩ := h2
          obtain ⟨loc, q1, q2⟩ := row_get st ho
          rw [q1] at e1; cases e1
          cases loc with
          | none =>
            simp only [RowAt] at q2; subst q2
            have := g1.1; have := g2.1
            simp only [List.length_nil] at this
            omega
          | some q =>
            obtain ⟨p, v⟩ := q
            rw [e]
            simp only [slA]
            refine ⟨j.toNat, by have := g1.1; omega, by have := g2.1; have := g1.1; omega, wRow_iff.2 ⟨_, _, q2, hsz, hk _ ?_⟩⟩
            simp only [SimV]
            exact ⟨_, p, v, q1, rfl, g1.1, g2.1, by rw [hsz]; simp⟩
        · rename_i t ls ho
          split at h1 <;> cases h1
          rename_i hz
          have g1 := hps.cons
          have g2 := g1.2.cons
          have hsz := beq_eq hz
          simp only [SimV] at h2
          obtain ⟨hd, e1, e⟩ := h2
          obtain ⟨p, v, sub, q1, q2, q3⟩ := drow_get st ho
          rw [q1] at e1; cases e1
          rw [e]
          simp only [slA]
          refine ⟨j.toNat, by have := g1.1; omega, by have := g2.1; have := g1.1; omega, wRow_iff.2 ⟨_, _, q2, hsz, hk _ ?_⟩⟩
          simp only [SimV]
          exact ⟨_, p, v, q1, rfl, g1.1, g2.1, by rw [← hsz]; simp⟩
        · cases h1
      · rename_i l i'
        split at h1
        · rename_i t ls ho
          split at h1 <;> cases h1
          rename_i hz
          have g1 := hps.cons
          have g2 := g1.2.cons
          have hsz := beq_eq hz
          simp only [SimV] at h2
          obtain ⟨hd, q, e1, e2, e3, e⟩ := h2
          obtain ⟨p, v, sub, q1, q2, q3⟩ := drow_get st ho
          rw [q1] at e1; cases e1
          obtain ⟨r1, r2, r3⟩ := sub_row q3 e2 e3
          obtain ⟨loc, m⟩ := q
          have := g1.1; have := g2.1
          simp only at r2 r3
          cases loc with
          | none =>
            simp only [RowAt] at r3
            rw [r3] at this
            simp only [List.length_nil] at this
            omega
          | some pv =>
            obtain ⟨p2, v2⟩ := pv
            rw [e]
            simp only [slA]
            refine ⟨j.toNat, by omega, by omega, wRow_iff.2 ⟨_, _, r3, hsz, hk _ ?_⟩⟩
            simp only [SimV]
            exact ⟨_, p2, v2, m, q1, e2, e3, by omega, by omega, by simp⟩
        · cases h1
      · rename_i l off len
        split at h1
        · rename_i t ls ho
          split at h1 <;> cases h1
          rename_i hz
          have g1 := hps.cons
          have g2 := g1.2.cons
          have hsz := beq_eq hz
          simp only [SimV] at h2
          obtain ⟨hd, e1, e2, e3, e4, e⟩ := h2
          obtain ⟨loc, q1, q2⟩ := row_get st ho
          rw [q1] at e1; cases e1
          simp only at e4
          have := g1.1; have := g2.1
          cases loc with
          | none =>
            simp only [RowAt] at q2; subst q2
            simp only [List.length_nil] at e4
            omega
          | some q =>
            obtain ⟨p, v⟩ := q
            rw [e]
            simp only [slA]
            refine ⟨j.toNat, by omega, by omega, wRow_iff.2 ⟨_, _, q2, hsz, hk _ ?_⟩⟩
            simp only [SimV]
            refine ⟨_, p, v, q1, rfl, by omega, by simp only; omega, ?_⟩
            rw [hsz, show (off + j).toNat = off.toNat + j.toNat by omega, Nat.add_mul, Nat.add_zero]
        · cases h1
      · cases h1
    · cases h
  case index k ar ag x i =>
    obtain ⟨a, kk, j, h1, h2, h3⟩ := wi h
    simp only [vcOp, rdK_iff, h3, wIdx]
    unfold evIndex at h1
    split at h1
    · split at h1 <;> cases h1
      rename_i s
      have g1 := hps.cons
      have g2 := g1.2.cons
      simp only [SimV] at h2
      rw [h2]
      obtain ⟨hi, e⟩ := gt_get (d := (default : UInt8)) g1.1 g2.1
      refine ⟨j.toNat, by have := g1.1; omega, s[j.toNat], List.getElem?_eq_getElem hi, hk _ ?_⟩
      simp only [SimV]
      rw [← e]
    · split at h1
      · split at h1 <;> cases h1
        rename_i hpk
        have g1 := hps.cons
        have g2 := g1.2.cons
        simp only [SimV] at h2
        obtain ⟨xs, e, hs⟩ := h2
        rw [e]
        obtain ⟨ys, q1, q2⟩ := pickN_sound hs _ 0 hpk g1.1 (by have := g2.1; omega) hk
        exact ⟨j.toNat, by have := g1.1; omega, by have := g2.1; have := g1.1; omega, ys, q1, q2⟩
      · cases h1
  case len str x =>
    obtain ⟨a, h1, h2⟩ := w1 h
    simp only [vcOp, rdK_iff]
    unfold evLen at h1
    split at h1
    · cases h1; simp only [SimV] at h2; rw [h2]; exact hk _ (by simp [SimV])
    · cases h1; simp only [SimV] at h2; rw [h2]; exact hk _ (by simp [SimV])
    · split at h1 <;> cases h1
      rename_i ho
      simp only [SimV] at h2
      obtain ⟨hd, e1, e⟩ := h2
      obtain ⟨loc, q1, q2⟩ := row_get st ho
      rw [q1] at e1; cases e1
      rw [e]
      cases loc with
      | none => simp only [RowAt] at q2; subst q2; exact hk _ (by simp [SimV])
      | some q => exact hk _ (by simp [SimV])
      rename_i ho
      simp only [SimV] at h2
      obtain ⟨hd, e1, e⟩ := h2
      obtain ⟨p, v, sub, q1, q2, q3⟩ := drow_get st ho
      rw [q1] at e1; cases e1
      rw [e]
      exact hk _ (by simp [SimV])
    · split at h1 <;> cases h1
      rename_i ho
      simp only [SimV] at h2
      obtain ⟨hd, q, e1, e2, e3, e⟩ := h2
      obtain ⟨p, v, sub, q1, q2, q3⟩ := drow_get st ho
      rw [q1] at e1; cases e1
      obtain ⟨r1, r2, r3⟩ := sub_row q3 e2 e3
      obtain ⟨loc, m⟩ := q
      simp only at r2 r3 e
      rw [e]
      cases loc with
      | none =>
        simp only [RowAt] at r3
        exact hk _ (by simp [SimV, r3])
      | some pv => exact hk _ (by simp [SimV, r2])
    · cases h1
      simp only [SimV] at h2
      obtain ⟨hd, e1, e2, e3, e4, e⟩ := h2
      rw [e]
      cases hl : hd.loc with
      | none =>
        have := st.noloc e1 hl
        simp only [slA]
        refine hk _ ?_
        simp only [SimV]
        congr 1
        omega
      | some q =>
        refine hk _ ?_
        simp only [SimV]
        congr 1
        omega
    · cases h1; simp only [SimV] at h2; rw [h2]; exact hk _ (by simp [SimV])
    · cases h1
  case min xs =>
    unfold withL at h
    split at h
    · rename_i ys hy
      have hs := rdPs_sim hF hp hy
      unfold evMM at h
      split at h
      · split at h <;> cases h
        rename_i hm
        simp only [SimL, SimV] at hs
        obtain ⟨z, zs, e, rfl, hs⟩ := hs
        simp only [vcOp, rdsK_iff, e]
        exact minV_sound (K := fun z => K z S) _ _ hm hs hk
      · cases h
    · cases h
  case max xs =>
    unfold withL at h
    split at h
    · rename_i ys hy
      have hs := rdPs_sim hF hp hy
      unfold evMM at h
      split at h
      · split at h <;> cases h
        rename_i hm
        simp only [SimL, SimV] at hs
        obtain ⟨z, zs, e, rfl, hs⟩ := hs
        simp only [vcOp, rdsK_iff, e]
        exact maxV_sound (K := fun z => K z S) _ _ hm hs hk
      · cases h
    · cases h
  case slice3 k x hh m =>
    unfold with1 at h
    split at h
    · rename_i y hy
      dsimp only at h
      unfold with2 at h
      split at h
      · rename_i a b ha hb
        dsimp only at h
        split at h
        · rename_i k1 n k2 n' hn hn'
          split at h
          · rename_i l
            split at h
            · rename_i t ls ho
              split at h <;> cases h
              rename_i hz hkk
              have hkk := kEq_eq hkk
              subst hkk
              have h1 := hps.cons
              have h2 := h1.2.cons
              have h3 := h2.2.cons
              have g1 := h1.1
              have g2 := h2.1
              have g3 := h3.1
              have hx := rdP_sim hF hp hy
              simp only [SimV] at hx
              obtain ⟨hd, e1, e2⟩ := hx
              obtain ⟨loc, q1, q2⟩ := row_get st ho
              rw [q1] at e1; cases e1
              simp only [vcOp, rdK_iff, e2, asI_sim hn (rdP_sim hF hp ha), asI_sim hn' (rdP_sim hF hp hb), wIdx]
              refine ⟨n.toNat, by omega, by rw [g1], ?_⟩
              cases loc with
              | none =>
                simp only [RowAt] at q2
                subst q2
                simp only [List.length_nil] at g3
                refine ⟨by omega, hk _ ?_⟩
                simp only [SimV]
                exact ⟨_, q1, by omega, g2, by simp only [List.length_nil]; omega, rfl⟩
              | some pv =>
                obtain ⟨p, v⟩ := pv
                refine ⟨by omega, wRow_iff.2 ⟨_, _, q2, beq_eq hz, hk _ ?_⟩⟩
                simp only [SimV]
                exact ⟨_, q1, by omega, g2, by simp only; omega, by simp [slA]⟩
            · cases h
          · cases h
        · cases h
      · cases h
    · cases h
  case mkif t x =>
    unfold with1 at h
    split at h
    · rename_i y hy
      dsimp only at h
      split at h <;> cases h
      have hs := rdP_sim hF hp hy
      simp only [SimV] at hs
      obtain ⟨hd, e1, e2⟩ := hs
      simp only [vcOp, rdK_iff, e2]
      exact hk _ (by simp only [SimV]; exact ⟨_, e1, rfl⟩)
    · cases h
  case mkfunc f first cap =>
    unfold evFunc at h
    split at h
    · split at h <;> cases h
      rename_i hy
      have hs := rdPs_sim hF hp hy
      simp only [vcOp, rdsK_iff, List.map_nil]
      exact hk _ (by simp only [SimV]; exact ⟨_, rfl, hs⟩)
    · cases h
  case ext k xs =>
    unfold withL at h
    split at h
    · rename_i ys hy
      have hs := rdPs_sim hF hp hy
      unfold evExt at h
      split at h
      · rename_i s c
        split at h
        · rename_i b hb
          simp only [SimL, SimV] at hs
          obtain ⟨z, zs, e, rfl, u, us, rfl, h2, rfl⟩ := hs
          have e2 : ∃ n : Int, u = .int .u8 n ∧ n.toNat.toUInt8 = b := by
            unfold asBy at hb
            split at hb <;> cases hb
            · simp only [SimV] at h2
              exact ⟨_, h2, by simp⟩
            · simp only [SimV] at h2
              exact ⟨_, h2, rfl⟩
          obtain ⟨n, rfl, rfl⟩ := e2
          simp only [vcOp, rdsK_iff, e]
          cases k <;> simp only [Option.some.injEq, Prod.mk.injEq] at h <;> obtain ⟨rfl, rfl⟩ := h <;> simp only [vcExt] <;> exact hk _ (by simp only [SimV])
        · cases h
      · cases h
    · cases h
  case extract x i =>
    obtain ⟨a, h1, h2⟩ := w1 h
    simp only [vcOp, rdK_iff]
    unfold evExtract at h1
    split at h1
    · rename_i xs
      simp only [SimV] at h2
      obtain ⟨ys, e, hs⟩ := h2
      rw [e]
      simp only [dropK_iff]
      have hd := hs.drop i
      split at h1 <;> cases h1
      rename_i r he
      rw [he] at hd
      simp only [SimL] at hd
      obtain ⟨z, zs, e2, h3, _⟩ := hd
      rw [e2]
      exact hk _ h3
    · cases h1
  case call f args =>
    unfold withL at h
    split at h
    · rename_i ys hy
      have hs := rdPs_sim hF hp hy
      unfold evCall at h
      split at h
      · rename_i ct hc
        split at h <;> cases h
        rename_i hv hd hf
        obtain ⟨r0, g1, g2⟩ := con_det (hΓ.look hc) st hd hps.cons.1 hs hf hv
        simp only [rdsK_iff]
        exact ⟨r0, g2, hk _ g1⟩
      · cases h
    · cases h
  case callv x args =>
    obtain ⟨a, h1, h2⟩ := w1 h
    simp only [rdK_iff]
    split at h1
    · rename_i f cap
      simp only [SimV] at h2
      obtain ⟨ys, e, hc⟩ := h2
      rw [e]
      unfold withL at h1
      split at h1
      · rename_i xs hx
        have hs := (rdPs_sim hF hp hx).append hc
        unfold evCall at h1
        split at h1
        · rename_i ct hct
          dsimp only at h1
          split at h1 <;> cases h1
          rename_i hv hd hf
          obtain ⟨r0, g1, g2⟩ := con_det (hΓ.look hct) st hd hps.cons.1 hs hf hv
          simp only [rdsK_iff]
          exact ⟨trivial, r0, g2, hk _ g1⟩
        · cases h1
      · cases h1
    · cases h1
end
end Go.Vc
