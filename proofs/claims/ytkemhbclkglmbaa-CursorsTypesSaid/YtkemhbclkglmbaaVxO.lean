/-
  Quiet operations: their value hangs on the slots that they name, and the store stays as it is.
-/
import Derived.Test.YtkemhbclkglmbaaVxM
set_option linter.unusedVariables false
set_option linter.unusedSimpArgs false
namespace Go.Vc

def Rand.slots : Rand → List Nat | .t n => [n] | .c _ => []
def rsSlots (xs : List Rand) : List Nat := xs.flatMap Rand.slots
def optSlots : Option Rand → List Nat | none => [] | some r => r.slots
def partSlots (ps : List (Nat × Nat × Rand)) : List Nat := ps.flatMap fun p => p.2.2.slots

def SOp.slots : SOp → List Nat
  | .mov x | .box _ x | .load _ _ x | .nilchk x | .strid x | .not x | .neg x | .conv _ x | .faddr _ x | .field _ _ _ x | .len _ x | .extract x _ => x.slots
  | .newnil _ | .alloc _ _ | .alres _ _ _ => []
  | .pick c a b => c.slots ++ a.slots ++ b.slots
  | .build _ ps => partSlots ps
  | .bslice _ _ _ _ ps => partSlots ps
  | .store _ x v => x.slots ++ v.slots
  | .bin _ _ x y => x.slots ++ y.slots
  | .mkslice _ _ _ x y => x.slots ++ y.slots
  | .slice _ x lo hi => x.slots ++ optSlots lo ++ optSlots hi
  | .iaddr _ _ x i => x.slots ++ i.slots
  | .index _ _ _ x i => x.slots ++ i.slots
  | .append _ _ s x => s.slots ++ x.slots
  | .min xs => rsSlots xs
  | .max xs => rsSlots xs
  | .mkfunc _ xs ys => rsSlots xs ++ rsSlots ys
  | .ext _ xs => rsSlots xs
  | .call _ xs => rsSlots xs
  | .callv x xs => x.slots ++ rsSlots xs
  | .bad => []
  | .isnil _ x => x.slots
  | .mkres _ _ _ _ x y => x.slots ++ y.slots
  | .clear _ _ x => x.slots
  | .s2b x => x.slots
  | .b2s x => x.slots
  | .mark x => x.slots
  | .again t _ _ x => t :: x.slots
  | .mkif _ x => x.slots
  | .slice3 _ x h m => x.slots ++ h.slots ++ m.slots

theorem ACallsMono {P : Program} {f : FuncId} {args : List AVal} {S : Store} {R R' : AVal → Store → Prop} (h : ACalls P f args S R) (hr : ∀ r S', R r S' → R' r S') : ACalls P f args S R' :=
  ⟨fun E fz w vals st hrel => (h.out E fz w vals st hrel).mono fun e w' ⟨r, S', v, E', fz', h1, h2, h3, h4, h5⟩ => ⟨r, S', v, E', fz', h1, h2, h3, h4, hr _ _ h5⟩⟩

section
variable {P : Program} {F F' : Frame} {S : Store} {K : AVal → Store → Prop}

theorem rd_congr {x : Rand} (h : ∀ t ∈ x.slots, F.get t = F'.get t) : rd F x = rd F' x := by
  cases x with
  | t n => exact h n (by simp [Rand.slots])
  | c x => rfl
theorem rds_congr {xs : List Rand} (h : ∀ t ∈ rsSlots xs, F.get t = F'.get t) : xs.map (rd F) = xs.map (rd F') := by
  refine List.map_congr_left fun x hx => rd_congr fun t ht => h t ?_
  simp only [rsSlots, List.mem_flatMap]
  exact ⟨x, hx, ht⟩
theorem wFill_congr {Q : List AVal → Prop} : ∀ {ps : List (Nat × Nat × Rand)} {cs : List AVal}, (∀ t ∈ partSlots ps, F.get t = F'.get t) → wFill F cs Q ps → wFill F' cs Q ps
  | [], cs, _, h => h
  | (o, n, x) :: ps, cs, hs, h => by
    simp only [wFill, rdK_iff] at h ⊢
    rw [← rd_congr fun t ht => hs t (by simp [partSlots, ht])]
    have hr : ∀ t ∈ partSlots ps, F.get t = F'.get t := fun t ht => hs t (by simp only [partSlots, List.flatMap_cons, List.mem_append] at ht ⊢; exact .inr ht)
    revert h
    cases rd F x <;> simp only [wCells, setCellsK_iff] <;> first | exact id | exact fun h => ⟨h.1, h.2.1, wFill_congr hr h.2.2⟩
theorem wLo_congr {x : Option Rand} {Q : Nat → Prop} (hs : ∀ t ∈ optSlots x, F.get t = F'.get t) : wLo F x Q = wLo F' x Q := by
  cases x with
  | none => rfl
  | some r => simp only [wLo, rdK_iff]; rw [rd_congr hs]
theorem wHi_congr {x : Option Rand} {n : Nat} {Q : Nat → Prop} (hs : ∀ t ∈ optSlots x, F.get t = F'.get t) : wHi F n x Q = wHi F' n x Q := by
  cases x with
  | none => rfl
  | some r => simp only [wHi, rdK_iff]; rw [rd_congr hs]

theorem vcOp_congr {so : SOp} (hq : so.quiet = true) (hs : ∀ t ∈ so.slots, F.get t = F'.get t) (h : vcOp P F S K so) : vcOp P F' S K so := by
  cases so <;> simp only [SOp.quiet] at hq <;> first | (cases hq; done) | skip
  case build z ps => exact wFill_congr hs h
  case bslice ro len k z ps => subst hq; exact wFill_congr hs h
  case slice k x lo hi =>
    simp only [SOp.slots, List.mem_append] at hs
    have h1 := rd_congr (x := x) fun t ht => hs t (.inl (.inl ht))
    have h2 : ∀ Q, wLo F lo Q = wLo F' lo Q := fun Q => wLo_congr fun t ht => hs t (.inl (.inr ht))
    have h3 : ∀ n Q, wHi F n hi Q = wHi F' n hi Q := fun n Q => wHi_congr fun t ht => hs t (.inr ht)
    simp only [vcOp, rdK_iff, h1, h2, h3] at h ⊢
    exact h
  all_goals
    simp only [SOp.slots, List.mem_append] at hs
    simp only [vcOp, rdK_iff, rdsK_iff] at h ⊢
  case slice3 k x y z => rw [← rd_congr (x := x) fun t ht => hs t (.inl (.inl ht)), ← rd_congr (x := y) fun t ht => hs t (.inl (.inr ht)), ← rd_congr (x := z) fun t ht => hs t (.inr ht)]; exact h
  case pick c a b => rw [← rd_congr (x := c) fun t ht => hs t (.inl (.inl ht)), ← rd_congr (x := a) fun t ht => hs t (.inl (.inr ht)), ← rd_congr (x := b) fun t ht => hs t (.inr ht)]; exact h
  case bin q o x y => rw [← rd_congr (x := x) fun t ht => hs t (.inl ht), ← rd_congr (x := y) fun t ht => hs t (.inr ht)]; exact h
  case iaddr k ar x y => rw [← rd_congr (x := x) fun t ht => hs t (.inl ht), ← rd_congr (x := y) fun t ht => hs t (.inr ht)]; exact h
  case index k ar ag x y => rw [← rd_congr (x := x) fun t ht => hs t (.inl ht), ← rd_congr (x := y) fun t ht => hs t (.inr ht)]; exact h
  case again t n ag x => rw [← rd_congr (x := x) fun u hu => hs u (by simp [hu]), ← rd_congr (F := F) (x := .t t) fun u hu => hs u (by simp [Rand.slots] at hu; simp [hu])]; exact h
  case mkfunc f xs ys => rw [← rds_congr (xs := xs) fun t ht => hs t (.inl ht), ← rds_congr (xs := ys) fun t ht => hs t (.inr ht)]; exact h
  case callv x xs => rw [← rd_congr (x := x) fun t ht => hs t (.inl ht), ← rds_congr (xs := xs) fun t ht => hs t (.inr ht)]; exact h
  case min xs => rw [← rds_congr (xs := xs) hs]; exact h
  case max xs => rw [← rds_congr (xs := xs) hs]; exact h
  case call f xs => rw [← rds_congr (xs := xs) hs]; exact h
  case ext k xs => rw [← rds_congr (xs := xs) hs]; exact h
  all_goals
    rw [← rd_congr hs]; exact h

/-- A reading that gives one thing. -/
def Det {α : Type} (T : (α → Prop) → Prop) : Prop := ∀ K, T K → ∃ x, K x ∧ ∀ K', K' x → T K'

theorem det_wMk {k : IntKind} {n : Int} : Det (wMk k n) := fun K h => by
  unfold wMk at h
  split at h
  · exact ⟨_, h.2, fun K' hk => ⟨h.1, hk⟩⟩
  · rename_i hk
    refine ⟨_, h, fun K' hk' => ?_⟩
    unfold wMk
    split
    · exact (hk rfl).elim
    · exact hk'
theorem det_eqk {op : BinOp} {r : Bool} : Det (eqK op r) := fun K h => by
  cases op <;> simp only [eqK] at h <;> first | exact h.elim | exact ⟨_, h, fun K' hk => hk⟩
theorem det_cells : ∀ {ks : List FK} {xs ys : List AVal}, Det (cellsEq ks xs ys)
  | [], xs, ys, K, h => by
    cases xs <;> cases ys <;> simp only [cellsEq] at h
    exact ⟨true, h, fun K' hk => hk⟩
  | k :: ks, [], ys, K, h => by cases k <;> simp only [cellsEq] at h
  | k :: ks, x :: xs, [], K, h => by cases k <;> cases x <;> simp only [cellsEq] at h
  | k :: ks, x :: xs, y :: ys, K, h => by
    cases k <;> cases x <;> cases y <;> simp only [cellsEq] at h ⊢
    · obtain ⟨r, h1, h2⟩ := det_cells (ks := ks) (xs := xs) (ys := ys) _ h.2
      exact ⟨_, h1, fun K' hk => ⟨h.1, h2 _ hk⟩⟩
    · obtain ⟨r, h1, h2⟩ := det_cells (ks := ks) (xs := xs) (ys := ys) _ h
      exact ⟨_, h1, fun K' hk => h2 _ hk⟩
    · obtain ⟨r, h1, h2⟩ := det_cells (ks := ks) (xs := xs) (ys := ys) _ h
      exact ⟨_, h1, fun K' hk => h2 _ hk⟩

theorem det_int {op : BinOp} {k : IntKind} {a b : Int} : Det (intBin op k a b) := fun K h => by
  cases op <;> simp only [intBin] at h <;> first
    | exact h.elim
    | exact det_wMk K h
    | (obtain ⟨x, h1, h2⟩ := det_wMk K h.2; exact ⟨x, h1, fun K' hk => ⟨h.1, h2 K' hk⟩⟩)
    | exact ⟨_, h.2, fun K' hk => ⟨h.1, hk⟩⟩
    | exact ⟨_, h, fun K' hk => hk⟩
theorem det_str {op : BinOp} {a b : List UInt8} : Det (strBin op a b) := fun K h => by
  cases op <;> simp only [strBin] at h <;> first | exact h.elim | exact ⟨_, h.2, fun K' hk => ⟨h.1, hk⟩⟩ | exact ⟨_, h, fun K' hk => hk⟩

theorem det_bin {q : EqQ} {op : BinOp} {x y : AVal} : Det (vcBin q op x y) := by
  intro K h
  cases x <;> cases y <;> simp only [vcBin] at h ⊢ <;> first | exact h.elim | skip
  case int.int k a k' b =>
    cases op <;> simp only at h ⊢ <;> first
      | (obtain ⟨x, h1, h2⟩ := det_int _ h.2; exact ⟨x, h1, fun K' hk => ⟨h.1, h2 K' hk⟩⟩)
      | (obtain ⟨x, h1, h2⟩ := det_wMk K h.2; exact ⟨x, h1, fun K' hk => ⟨h.1, h2 K' hk⟩⟩)
      | exact ⟨_, h.2, fun K' hk => ⟨h.1, hk⟩⟩
  case str.str a b => exact det_str _ h
  all_goals
    cases q <;> simp only at h ⊢ <;> first | exact h.elim | exact det_eqk _ h | skip
  case agg.agg.agg xs ys ks =>
    obtain ⟨r, h1, h2⟩ := det_cells _ h
    obtain ⟨z, h3, h4⟩ := det_eqk _ h1
    exact ⟨z, h3, fun K' hk => h2 _ (h4 K' hk)⟩

theorem det_take {n : Nat} {cs : List AVal} : Det (takeK n cs) := fun K h => by
  rw [takeK_iff] at h
  obtain ⟨xs, h1, h2⟩ := h
  exact ⟨xs, h2, fun K' hk => takeK_iff.2 ⟨xs, h1, hk⟩⟩
theorem det_mk {ag : Bool} {xs : List AVal} : Det (mkVK ag xs) := fun K h => by
  rcases mkVK_iff.1 h with ⟨h1, h2⟩ | ⟨h1, x, h2, h3⟩
  · exact ⟨_, h2, fun K' hk => mkVK_iff.2 (.inl ⟨h1, hk⟩)⟩
  · exact ⟨x, h3, fun K' hk => mkVK_iff.2 (.inr ⟨h1, x, h2, hk⟩)⟩
theorem det_min : ∀ {xs : List AVal} {a : AVal}, Det fun K => vcMin a K xs
  | [], a, K, h => ⟨a, h, fun K' hk => hk⟩
  | b :: xs, a, K, h => by
    cases a <;> cases b <;> simp only [vcMin] at h ⊢
    obtain ⟨z, h1, h2⟩ := det_min (xs := xs) K h.2
    exact ⟨z, h1, fun K' hk => ⟨h.1, h2 K' hk⟩⟩
theorem det_max : ∀ {xs : List AVal} {a : AVal}, Det fun K => vcMax a K xs
  | [], a, K, h => ⟨a, h, fun K' hk => hk⟩
  | b :: xs, a, K, h => by
    cases a <;> cases b <;> simp only [vcMax] at h ⊢
    obtain ⟨z, h1, h2⟩ := det_max (xs := xs) K h.2
    exact ⟨z, h1, fun K' hk => ⟨h.1, h2 K' hk⟩⟩
theorem det_fill : ∀ {ps : List (Nat × Nat × Rand)} {cs : List AVal}, Det fun K => wFill F cs K ps
  | [], cs, K, h => ⟨cs, h, fun K' hk => hk⟩
  | (o, n, x) :: ps, cs, K, h => by
    simp only [wFill, rdK_iff] at h ⊢
    revert h
    cases rd F x <;> simp only [wCells, setCellsK_iff] <;> first
      | exact fun h => h.elim
      | (intro h
         obtain ⟨z, h1, h2⟩ := det_fill (ps := ps) K h.2.2
         exact ⟨z, h1, fun K' hk => ⟨h.1, h.2.1, h2 K' hk⟩⟩)
theorem det_load {n : Nat} {ag : Bool} {x : AVal} : Det (wLoad S n ag x) := fun K h => by
  cases x <;> simp only [wLoad] at h ⊢ <;> first | exact h.elim | skip
  case ptr l v off =>
    obtain ⟨k, cs, hl, h⟩ := wRow_iff.1 h
    cases k with
    | zero =>
      simp only [dropK_iff] at h
      obtain ⟨xs, h1, h2⟩ := det_take _ h
      obtain ⟨z, h3, h4⟩ := det_mk _ h1
      exact ⟨z, h3, fun K' hk => wRow_iff.2 ⟨0, cs, hl, by simp only [dropK_iff]; exact h2 _ (h4 _ hk)⟩⟩
    | succ k =>
      obtain ⟨xs, h1, h2⟩ := h
      obtain ⟨z, h3, h4⟩ := det_mk _ h2
      exact ⟨z, h3, fun K' hk => wRow_iff.2 ⟨k + 1, cs, hl, xs, h1, h4 _ hk⟩⟩
  case rop cs =>
    obtain ⟨xs, h1, h2⟩ := det_take _ h
    obtain ⟨z, h3, h4⟩ := det_mk _ h1
    exact ⟨z, h3, fun K' hk => h2 _ (h4 _ hk)⟩
theorem det_idx {x : AVal} : Det (wIdx x) := fun K h => by
  cases x <;> simp only [wIdx] at h ⊢
  obtain ⟨j, h1, h2⟩ := h
  exact ⟨j, h2, fun K' hk => ⟨j, h1, hk⟩⟩
theorem det_lo {x : Option Rand} : Det (wLo F x) := fun K h => by
  cases x with
  | none => exact ⟨0, h, fun K' hk => hk⟩
  | some r => simp only [wLo, rdK_iff] at h ⊢; exact det_idx _ h
theorem det_hi {n : Nat} {x : Option Rand} : Det (wHi F n x) := fun K h => by
  cases x with
  | none => exact ⟨n, h, fun K' hk => hk⟩
  | some r => simp only [wHi, rdK_iff] at h ⊢; exact det_idx _ h

theorem det_bytes {x : AVal} : Det (wBytes S x) := fun K h => by
  cases x <;> simp only [wBytes] at h ⊢ <;> first | exact h.elim | exact ⟨_, h, fun K' hk => hk⟩ | skip
  · obtain ⟨k, cs, h1, h2, ns, h3, h4⟩ := wRow_iff.1 h
    exact ⟨_, h4, fun K' hk => wRow_iff.2 ⟨k, cs, h1, h2, ns, h3, hk⟩⟩
  · obtain ⟨h1, ns, h2, h3⟩ := h
    exact ⟨_, h3, fun K' hk => ⟨h1, ns, h2, hk⟩⟩

/-- A quiet operation has one value, and leaves the store. -/
theorem quiet_det {so : SOp} (hq : so.quiet = true) (h : vcOpD P F S K so) : ∃ x, K x S ∧ ∀ K' : AVal → Store → Prop, K' x S → vcOp P F S K' so := by
  cases so <;> simp only [SOp.quiet] at hq <;> first | (cases hq; done) | skip
  case call f xs =>
    simp only [vcOpD, vcOp, rdsK_iff] at h ⊢
    obtain ⟨r0, h1, h2⟩ := h
    exact ⟨r0, h2, fun K' hk => ACallsMono h1 fun r S' hr => by obtain ⟨rfl, rfl⟩ := hr; exact hk⟩
  case callv x xs =>
    simp only [vcOpD, vcOp, rdK_iff, rdsK_iff] at h ⊢
    generalize rd F x = X at *
    cases X <;> first | exact h.elim | skip
    rename_i f first cap
    cases f <;> first | exact h.elim | skip
    cases first <;> first | exact h.elim | skip
    obtain ⟨hc, r0, h1, h2⟩ := h
    exact ⟨r0, h2, fun K' hk => ⟨hc, ACallsMono h1 fun r S' hr => by obtain ⟨rfl, rfl⟩ := hr; exact hk⟩⟩
  all_goals simp only [vcOpD, vcOp, rdK_iff, rdsK_iff] at h ⊢
  case b2s x =>
    obtain ⟨z, h1, h2⟩ := det_bytes _ h
    exact ⟨_, h1, fun K' hk => h2 _ hk⟩
  case again t n ag x =>
    obtain ⟨z, h1, h2⟩ := det_load _ h
    exact ⟨_, h1.2, fun K' hk => h2 _ ⟨h1.1, hk⟩⟩
  case ext k xs =>
    unfold vcExt at h ⊢
    split at h
    · exact ⟨_, h, fun K' hk => hk⟩
    · exact ⟨_, h, fun K' hk => hk⟩
    · exact h.elim
  case mov x => exact ⟨_, h, fun K' hk => hk⟩
  case pick c a b =>
    generalize rd F c = C at *
    cases C <;> first | exact h.elim | exact ⟨_, h, fun K' hk => hk⟩ | skip
    rename_i cb
    cases cb
    · exact ⟨_, h.2 rfl, fun K' hk => ⟨fun e => (by cases e), fun _ => hk⟩⟩
    · exact ⟨_, h.1 rfl, fun K' hk => ⟨fun _ => hk, fun e => by cases e⟩⟩
  case build z ps =>
    obtain ⟨x, h1, h2⟩ := det_fill _ h
    exact ⟨_, h1, fun K' hk => h2 _ hk⟩
  case bslice ro len k z ps =>
    subst hq
    obtain ⟨x, h1, h2⟩ := det_fill _ h
    exact ⟨_, h1, fun K' hk => h2 _ hk⟩
  case load n ag x =>
    obtain ⟨z, h1, h2⟩ := det_load _ h
    exact ⟨z, h1, fun K' hk => h2 _ hk⟩
  case nilchk x =>
    generalize rd F x = X at *
    cases X <;> first | exact h.elim | exact ⟨_, h, fun K' hk => hk⟩ | skip
    rename_i f a b
    cases f <;> first | exact h.elim | exact ⟨_, h, fun K' hk => hk⟩
  case bin q op x y =>
    obtain ⟨z, h1, h2⟩ := det_bin _ h
    exact ⟨z, h1, fun K' hk => h2 _ hk⟩
  case strid x =>
    generalize rd F x = X at *
    cases X <;> first | exact h.elim | exact ⟨_, h, fun K' hk => hk⟩
  case not x =>
    generalize rd F x = X at *
    cases X <;> simp only [wBool] at h ⊢ <;> first | exact h.elim | exact ⟨_, h, fun K' hk => hk⟩
  case neg x =>
    generalize rd F x = X at *
    cases X <;> simp only [wInt] at h ⊢ <;> first | exact h.elim | skip
    obtain ⟨z, h1, h2⟩ := det_wMk _ h
    exact ⟨z, h1, fun K' hk => h2 _ hk⟩
  case conv k x =>
    generalize rd F x = X at *
    cases X <;> simp only [wInt] at h ⊢ <;> first | exact h.elim | skip
    obtain ⟨z, h1, h2⟩ := det_wMk _ h
    exact ⟨z, h1, fun K' hk => h2 _ hk⟩
  case slice3 k x y z =>
    obtain ⟨n, h1, h2⟩ := det_idx _ h
    generalize rd F x = X at *
    cases X <;> simp only at h1 h2 ⊢ <;> first | exact h1.2.elim | skip
    · exact ⟨_, h1.2.2, fun K' hk => h2 _ ⟨h1.1, h1.2.1, hk⟩⟩
    · obtain ⟨g0, g1, g2⟩ := h1
      obtain ⟨k', cs, hl, e, hk⟩ := wRow_iff.1 g2
      exact ⟨_, hk, fun K' hk => h2 _ ⟨g0, g1, wRow_iff.2 ⟨k', cs, hl, e, hk⟩⟩⟩
  case slice k x lo hi =>
    generalize rd F x = X at *
    cases k with
    | zero =>
      cases X <;> first | exact h.elim | skip
      simp only at h ⊢
      obtain ⟨hh, h1, h2⟩ := det_hi _ h
      obtain ⟨j, h3, h4⟩ := det_lo _ h1
      exact ⟨_, h3.2.2, fun K' hk => h2 _ (h4 _ ⟨h3.1, h3.2.1, hk⟩)⟩
    | succ k =>
      cases X <;> first | exact h.elim | skip
      all_goals
        simp only at h ⊢
        obtain ⟨hh, h1, h2⟩ := det_hi _ h
        obtain ⟨j, h3, h4⟩ := det_lo _ h1
      · exact ⟨_, h3.2.2, fun K' hk => h2 _ (h4 _ ⟨h3.1, h3.2.1, hk⟩)⟩
      · obtain ⟨k', cs, hl, e, hk⟩ := wRow_iff.1 h3.2.2
        exact ⟨_, hk, fun K' hk => h2 _ (h4 _ ⟨h3.1, h3.2.1, wRow_iff.2 ⟨k', cs, hl, e, hk⟩⟩)⟩
      · exact ⟨_, h3.2.2.2, fun K' hk => h2 _ (h4 _ ⟨h3.1, h3.2.1, h3.2.2.1, hk⟩)⟩
  case faddr o x =>
    generalize rd F x = X at *
    cases X <;> simp only [dropK_iff] at h ⊢ <;> first | exact h.elim | exact ⟨_, h, fun K' hk => hk⟩
  case field o n ag x =>
    generalize rd F x = X at *
    cases X <;> simp only [dropK_iff] at h ⊢ <;> first | exact h.elim | skip
    obtain ⟨xs, h1, h2⟩ := det_take _ h
    obtain ⟨z, h3, h4⟩ := det_mk _ h1
    exact ⟨z, h3, fun K' hk => h2 _ (h4 _ hk)⟩
  case iaddr k ar x i =>
    generalize rd F x = X at *
    obtain ⟨j, h1, h2⟩ := det_idx _ h
    cases X <;> cases ar <;> simp only at h1 h2 ⊢ <;> first | exact h1.elim | skip
    · exact ⟨_, h1.2, fun K' hk => h2 _ ⟨h1.1, hk⟩⟩
    · exact ⟨_, h1.2, fun K' hk => h2 _ ⟨h1.1, hk⟩⟩
    · obtain ⟨g1, g2⟩ := h1
      obtain ⟨k', cs, hl, e, hk⟩ := wRow_iff.1 g2
      exact ⟨_, hk, fun K' hk => h2 _ ⟨g1, wRow_iff.2 ⟨k', cs, hl, e, hk⟩⟩⟩
    · obtain ⟨g1, xs, g2, g3⟩ := h1
      exact ⟨_, g3, fun K' hk => h2 _ ⟨g1, xs, g2, hk⟩⟩
  case index k ar ag x i =>
    generalize rd F x = X at *
    obtain ⟨j, h1, h2⟩ := det_idx _ h
    cases X <;> cases ar <;> simp only at h1 h2 ⊢ <;> first | exact h1.elim | skip
    · obtain ⟨c, g1, g2⟩ := h1
      exact ⟨_, g2, fun K' hk => h2 _ ⟨c, g1, hk⟩⟩
    · obtain ⟨g1, xs, g2, g3⟩ := h1
      obtain ⟨z, h3, h4⟩ := det_mk _ g3
      exact ⟨z, h3, fun K' hk => h2 _ ⟨g1, xs, g2, h4 _ hk⟩⟩
  case len str x =>
    generalize rd F x = X at *
    cases str <;> cases X <;> first | exact h.elim | exact ⟨_, h, fun K' hk => hk⟩
  case min xs =>
    generalize xs.map (rd F) = ys at *
    cases ys <;> first | exact h.elim | skip
    obtain ⟨z, h1, h2⟩ := det_min _ h
    exact ⟨z, h1, fun K' hk => h2 _ hk⟩
  case max xs =>
    generalize xs.map (rd F) = ys at *
    cases ys <;> first | exact h.elim | skip
    obtain ⟨z, h1, h2⟩ := det_max _ h
    exact ⟨z, h1, fun K' hk => h2 _ hk⟩
  case mkfunc f a b => exact ⟨_, h, fun K' hk => hk⟩
  case mkif t x => exact ⟨_, h, fun K' hk => hk⟩
  case extract x i =>
    generalize rd F x = X at *
    cases X <;> simp only [dropK_iff] at h ⊢ <;> first | exact h.elim | skip
    split at h
    · rename_i y _ e; exact ⟨y, h, fun K' hk => hk⟩
    · exact h.elim

end
end Go.Vc
