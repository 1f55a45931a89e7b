/-
  The operations that leave the store as it is: what the typed reading says of them is enough.
-/
import Derived.Test.YtfelfimcnidplaaVyE
set_option linter.unusedVariables false
set_option linter.unusedSimpArgs false
namespace Go.Vc

def AllP (ps : List Prop) : Prop := ∀ p ∈ ps, p
theorem conj_iff {q : Prop} : ∀ {ps : List Prop}, conj ps q ↔ AllP ps ∧ q
  | [] => by simp [conj, AllP]
  | p :: ps => by simp only [conj, conj_iff, AllP, List.mem_cons, forall_eq_or_imp, and_assoc]
theorem AllP.cons {p : Prop} {ps : List Prop} (h : AllP (p :: ps)) : p ∧ AllP ps := ⟨h p (by simp), fun q hq => h q (by simp [hq])⟩
theorem under_iff {c : Prop} : ∀ {ps : List Prop}, AllP (underP c ps) ↔ (c → AllP ps)
  | [] => by simp [underP, AllP]
  | p :: ps => by
    have := @under_iff c ps
    simp only [AllP, underP, List.mem_cons, forall_eq_or_imp] at *
    rw [this]
    exact ⟨fun h hc => ⟨h.1 hc, h.2 hc⟩, fun h => ⟨fun hc => (h hc).1, fun hc => (h hc).2⟩⟩

section
variable {H : HF} {K : AVal → Prop}

theorem mkI_sound {k : IntKind} {n : Int} (hp : AllP (mkI k n).1) (hk : ∀ z, SimV H (mkI k n).2 z → K z) : wMk k n K := by
  cases k <;> simp only [mkI] at hp hk <;> simp only [wMk]
  case i64 => exact ⟨hp.cons.1, hk _ (by simp [SimV])⟩
  all_goals exact hk _ (by simp [SimV])

theorem pr_sim {p : Prop} [Decidable p] (hk : ∀ z, SimV H (.pr p) z → K z) : K (.bool (decide p)) := hk _ (by simp only [SimV]; exact ⟨_, rfl, by simp⟩)
theorem pr_sim' {p : Prop} {b : Bool} (hb : b = true ↔ p) (hk : ∀ z, SimV H (.pr p) z → K z) : K (.bool b) := hk _ (by simp only [SimV]; exact ⟨_, rfl, hb⟩)

theorem intBinV_sound {op : BinOp} {k : IntKind} {a b : Int} {ps : List Prop} {y : TV} (h : intBinV op k a b = some (ps, y)) (hp : AllP ps) (hk : ∀ z, SimV H y z → K z) : intBin op k a b K := by
  cases op <;> simp only [intBinV, Option.some.injEq] at h <;> first | (cases h; done) | skip
  all_goals simp only [intBin]
  case add => have e1 := congrArg Prod.fst h; have e2 := congrArg Prod.snd h; simp only at e1 e2; subst e1; subst e2; exact mkI_sound hp hk
  case sub => have e1 := congrArg Prod.fst h; have e2 := congrArg Prod.snd h; simp only at e1 e2; subst e1; subst e2; exact mkI_sound hp hk
  case mul => have e1 := congrArg Prod.fst h; have e2 := congrArg Prod.snd h; simp only at e1 e2; subst e1; subst e2; exact mkI_sound hp hk
  case quo => cases h; exact ⟨hp.cons.1, mkI_sound hp.cons.2 hk⟩
  case rem => cases h; exact ⟨hp.cons.1, hk _ (by simp [SimV])⟩
  all_goals cases h
  all_goals first
    | exact pr_sim hk
    | exact pr_sim' (by simp) hk
    | exact hk _ (by simp [SimV])

theorem strBinV_sound {op : BinOp} {a b : List UInt8} {ps : List Prop} {y : TV} (h : strBinV op a b = some (ps, y)) (hp : AllP ps) (hk : ∀ z, SimV H y z → K z) : strBin op a b K := by
  cases op <;> simp only [strBinV] at h <;> cases h <;> simp only [strBin]
  case add => exact ⟨hp.cons.1, hk _ (by simp [SimV])⟩
  all_goals exact pr_sim' (by simp) hk

theorem asP_wBool {x : TV} {p : Prop} {y : AVal} (h : asP x = some p) (hs : SimV H x y) {K : Bool → Prop} (hk : ∀ b, (b = true ↔ p) → K b) : wBool y K := by
  cases x <;> simp only [asP] at h <;> cases h <;> simp only [SimV] at hs
  case tt => subst hs; exact hk true (by simp)
  case ff => subst hs; exact hk false (by simp)
  case bb => subst hs; exact hk _ Iff.rfl
  case pr => obtain ⟨b, rfl, hb⟩ := hs; exact hk b hb
  case gd =>
    rcases hs with ⟨rfl, hp⟩ | ⟨rfl, hp⟩
    · exact hk true (by simp [hp])
    · exact hk false (by simp [hp])
theorem asQ_sim {x : TV} {p : Prop} {y : AVal} (h : asQ x = some p) (hs : SimV H x y) : ∃ b, y = .bool b ∧ (b = true ↔ p) := by
  cases x <;> simp only [asQ] at h <;> cases h <;> simp only [SimV] at hs
  case tt => subst hs; exact ⟨true, rfl, by simp⟩
  case ff => subst hs; exact ⟨false, rfl, by simp⟩
  case bb => subst hs; exact ⟨_, rfl, Iff.rfl⟩
  case pr => exact hs

theorem eqV_sound {op : BinOp} {p : Prop} {ps : List Prop} {y : TV} {r : Bool} (h : eqV op p = some (ps, y)) (hr : r = true ↔ p) (hk : ∀ z, SimV H y z → K z) : eqK op r K := by
  cases op <;> simp only [eqV] at h <;> cases h <;> simp only [eqK]
  · exact pr_sim' hr hk
  · exact pr_sim' (by simp [← hr]) hk

theorem cellsEqV_sound : ∀ {ks : List FK} {xs ys : List TV} {p : Prop} {X Y : List AVal} {K : Bool → Prop}, cellsEqV ks xs ys = some p → SimL H xs X → SimL H ys Y → (∀ r : Bool, (r = true ↔ p) → K r) → cellsEq ks X Y K := by
  have one : ∀ {k : FK} {x y : TV} {p : Prop} {X Y : AVal} {ks : List FK} {XS YS : List AVal} {K : Bool → Prop}, cellEqV k x y = some p → SimV H x X → SimV H y Y →
      (∀ K' : Bool → Prop, (∀ r, K' r ↔ ∀ b : Bool, (b = true ↔ p) → K (b && r)) → cellsEq ks XS YS K') → cellsEq (k :: ks) (X :: XS) (Y :: YS) K := by
    intro k x y p X Y ks XS YS K h hx hy hc
    have key : ∀ b : Bool, (b = true ↔ p) → cellsEq ks XS YS fun r => K (b && r) := fun b hb => hc _ fun r => ⟨fun h b' hb' => by
      have : b' = b := by rw [Bool.eq_iff_iff, hb, hb']
      rw [this]; exact h, fun h => h b hb⟩
    cases k <;> simp only [cellEqV] at h
    · split at h
      · rename_i k1 a k2 b h1 h2
        split at h <;> cases h
        rename_i hk
        have hk := kEq_eq hk
        subst hk
        rw [asI_sim h1 hx, asI_sim h2 hy]
        simp only [cellsEq]
        exact ⟨trivial, key _ (by simp)⟩
      · cases h
    · split at h
      · rename_i a b h1 h2
        cases h
        unfold cellEqV.decAS0 at h1 h2
        split at h1 <;> cases h1
        split at h2 <;> cases h2
        simp only [SimV] at hx hy
        subst hx; subst hy
        simp only [cellsEq]
        exact key _ (by simp)
      · cases h
    · split at h
      · rename_i a b h1 h2
        cases h
        obtain ⟨u, rfl, hu⟩ := asQ_sim h1 hx
        obtain ⟨v, rfl, hv⟩ := asQ_sim h2 hy
        simp only [cellsEq]
        exact key _ (by rw [decide_eq_true_eq, Bool.eq_iff_iff, hu, hv])
      · cases h
  intro ks
  induction ks with
  | nil =>
    intro xs ys p X Y K h hx hy hk
    cases xs <;> cases ys <;> simp only [cellsEqV] at h <;> cases h
    simp only [SimL] at hx hy
    subst hx; subst hy
    exact hk true (by simp)
  | cons k ks ih =>
    intro xs ys p X Y K h hx hy hk
    have gen : ∀ {x : TV} {xs : List TV} {y : TV} {ys : List TV}, SimL H (x :: xs) X → SimL H (y :: ys) Y → ∀ p1 p2, cellEqV k x y = some p1 → cellsEqV ks xs ys = some p2 → ((p1 ∧ p2) ↔ p) → cellsEq (k :: ks) X Y K := by
      intro x xs y ys hx hy p1 p2 h1 h2 hp
      simp only [SimL] at hx hy
      obtain ⟨a, as, rfl, hx1, hx2⟩ := hx
      obtain ⟨b, bs, rfl, hy1, hy2⟩ := hy
      exact one h1 hx1 hy1 fun K' hK' => ih h2 hx2 hy2 fun r hr => (hK' r).2 fun b hb => hk _ (by rw [Bool.and_eq_true, hb, hr, hp])
    cases xs with
    | nil => cases ys <;> simp [cellsEqV] at h
    | cons x xs => cases ys with
      | nil => cases ks <;> cases xs <;> simp [cellsEqV] at h
      | cons y ys =>
        cases ks with
        | nil =>
          cases xs with
          | nil =>
            cases ys with
            | nil =>
              simp only [cellsEqV] at h
              exact gen hx hy p True h rfl (by simp)
            | cons => simp [cellsEqV] at h
          | cons => cases ys <;> simp [cellsEqV] at h
        | cons k2 ks =>
          rw [cellsEqV] at h
          split at h <;> cases h
          rename_i p1 p2 h1 h2
          exact gen hx hy _ _ h1 h2 Iff.rfl
          all_goals (intro a b c; cases a)

theorem binI_sound {q : EqQ} {op : BinOp} {k k' : IntKind} {a b : Int} {ps : List Prop} {y : TV} (h : binI op k a k' b = some (ps, y)) (hp : AllP ps) (hk : ∀ z, SimV H y z → K z) : vcBin q op (.int k a) (.int k' b) K := by
  have rest : (∀ op', op = op' → op' ≠ .shl ∧ op' ≠ .shr) → (match kEq k k' with | some _ => intBinV op k a b | none => none) = some (ps, y) → k = k' ∧ intBin op k a b K := fun _ h => by
    split at h
    · rename_i hkk
      exact ⟨kEq_eq hkk, intBinV_sound h hp hk⟩
    · cases h
  cases op <;> simp only [binI] at h <;> simp only [vcBin]
  case shl => cases h; exact ⟨hp.cons.1, mkI_sound hp.cons.2 hk⟩
  case shr => cases h; exact ⟨hp.cons.1, hk _ (by simp [SimV])⟩
  all_goals exact rest (fun _ e => by subst e; simp) h

theorem binV_sound {q : EqQ} {op : BinOp} {x y : TV} {X Y : AVal} {ps : List Prop} {z : TV} (h : binV q op x y = some (ps, z)) (hx : SimV H x X) (hy : SimV H y Y) (hp : AllP ps) (hk : ∀ u, SimV H z u → K u) : vcBin q op X Y K := by
  unfold binV at h
  split at h
  · rename_i a b
    simp only [SimV] at hx hy
    subst hx; subst hy
    split at h
    · cases h
      simp only [vcBin, intBin]
      exact ⟨trivial, pr_sim' (by rw [decide_eq_true_eq]; exact ⟨fun e => UInt8.toNat_inj.1 (by omega), fun e => by rw [e]⟩) hk⟩
    · cases h
      simp only [vcBin, intBin]
      exact ⟨trivial, pr_sim' (by
        rw [Bool.not_eq_true', decide_eq_false_iff_not]
        exact ⟨fun e g => e (by rw [g]), fun e g => e (UInt8.toNat_inj.1 (by omega))⟩) hk⟩
    · exact binI_sound h hp hk
  · simp only [SimV] at hx hy; subst hx; subst hy; exact binI_sound h hp hk
  · simp only [SimV] at hx hy; subst hx; subst hy; exact binI_sound h hp hk
  · simp only [SimV] at hx hy; subst hx; subst hy; exact binI_sound h hp hk
  · simp only [SimV] at hx hy; subst hx; subst hy; simp only [vcBin]; exact strBinV_sound h hp hk
  · simp only [SimV] at hx hy
    obtain ⟨xs, rfl, hx⟩ := hx
    obtain ⟨ys, rfl, hy⟩ := hy
    split at h
    · split at h
      · rename_i p hc
        simp only [vcBin]
        exact cellsEqV_sound hc hx hy fun r hr => eqV_sound h hr hk
      · cases h
    · cases h
  · simp only [SimV] at hx hy; subst hx; subst hy
    split at h
    · simp only [vcBin]; exact eqV_sound h (by simp) hk
    · cases h
  · simp only [SimV] at hx hy; subst hx; obtain ⟨_, _, _, _, _, rfl⟩ := hy
    split at h
    · simp only [vcBin]; exact eqV_sound h (by simp) hk
    · cases h
  · simp only [SimV] at hx hy; subst hx; obtain ⟨_, _, _, _, _, _, _, rfl⟩ := hy
    split at h
    · simp only [vcBin]; exact eqV_sound h (by simp) hk
    · cases h
  · simp only [SimV] at hx hy; subst hx; obtain ⟨_, rfl, _⟩ := hy
    split at h
    · simp only [vcBin]; exact eqV_sound h (by simp) hk
    · cases h
  · simp only [SimV] at hx hy; subst hy; obtain ⟨_, _, _, _, _, rfl⟩ := hx
    split at h
    · simp only [vcBin]; exact eqV_sound h (by simp) hk
    · cases h
  · simp only [SimV] at hx hy; subst hy; obtain ⟨_, _, _, _, _, _, _, rfl⟩ := hx
    split at h
    · simp only [vcBin]; exact eqV_sound h (by simp) hk
    · cases h
  · simp only [SimV] at hx hy; subst hy; obtain ⟨_, rfl, _⟩ := hx
    split at h
    · simp only [vcBin]; exact eqV_sound h (by simp) hk
    · cases h
  · simp only [SimV] at hx hy; subst hx; subst hy
    split at h
    · simp only [vcBin]; exact eqV_sound h (by simp) hk
    · cases h
  · simp only [SimV] at hx hy; subst hy; obtain ⟨_, rfl, _⟩ := hx
    split at h
    · simp only [vcBin]; exact eqV_sound h (by simp) hk
    · cases h
  · split at h
    · split at h
      · rename_i a b h1 h2
        obtain ⟨u, rfl, hu⟩ := asQ_sim h1 hx
        obtain ⟨v, rfl, hv⟩ := asQ_sim h2 hy
        simp only [vcBin]
        exact eqV_sound h (by rw [decide_eq_true_eq, Bool.eq_iff_iff, hu, hv]) hk
      · cases h
    · cases h

/-! ### One of two -/
theorem iteP_pos {α : Type} {p : Prop} {a b : α} (h : p) : iteP p a b = a := by unfold iteP; exact if_pos h
theorem iteP_neg {α : Type} {p : Prop} {a b : α} (h : ¬ p) : iteP p a b = b := by unfold iteP; exact if_neg h

theorem sameC_eq {v u : Value} (h : sameC v u = true) : v = u := by
  unfold sameC at h
  split at h
  · rw [Bool.and_eq_true] at h; rw [beq_eq h.1, beq_eq h.2]
  · cases h
mutual
theorem sameV_eq : ∀ {x y : TV}, sameV x y = true → x = y
  | x, y, h => by
    unfold sameV at h
    split at h <;> first | (cases h; done) | rfl | skip
    · rw [beq_eq h]
    · rw [Bool.and_eq_true] at h; rw [beq_eq h.1, beq_eq h.2]
    · rw [Bool.and_eq_true] at h; rw [beq_eq h.1, sameL_eq h.2]
    · rw [sameL_eq h]
    · rw [sameL_eq h]
    · rw [sameL_eq h]
    · rw [sameC_eq h]
theorem sameL_eq : ∀ {xs ys : List TV}, sameL xs ys = true → xs = ys
  | [], [], _ => rfl
  | [], _ :: _, h => by simp [sameL] at h
  | _ :: _, [], h => by simp [sameL] at h
  | x :: xs, y :: ys, h => by
    simp only [sameL, Bool.and_eq_true] at h
    rw [sameV_eq h.1, sameL_eq h.2]
end

theorem pickS_sound {p : Prop} {x y z : TV} (h : pickS p x y = some z) : (p → ∀ u, SimV H x u → SimV H z u) ∧ (¬ p → ∀ u, SimV H y u → SimV H z u) := by
  unfold pickS at h
  split at h
  case h_1 => cases h; exact ⟨fun hp u hu => by simp only [SimV] at *; exact ⟨true, hu, by simp [hp]⟩, fun hp u hu => by simp only [SimV] at *; exact ⟨false, hu, by simp [hp]⟩⟩
  case h_2 => cases h; exact ⟨fun hp u hu => by simp only [SimV] at *; exact ⟨false, hu, by simp [hp]⟩, fun hp u hu => by simp only [SimV] at *; exact ⟨true, hu, by simp [hp]⟩⟩
  case h_3 => cases h; exact ⟨fun _ _ h => h, fun _ _ h => h⟩
  case h_4 => cases h; exact ⟨fun _ _ h => h, fun _ _ h => h⟩
  case h_5 =>
    split at h <;> cases h
    rename_i hk
    have hk := kEq_eq hk
    subst hk
    exact ⟨fun hp u hu => by simp only [SimV, iteP_pos hp] at *; exact hu, fun hp u hu => by simp only [SimV, iteP_neg hp] at *; exact hu⟩
  case h_6 => cases h; exact ⟨fun hp u hu => by simp only [SimV, iteP_pos hp] at *; exact hu, fun hp u hu => by simp only [SimV, iteP_neg hp] at *; exact hu⟩
  case h_7 => cases h; exact ⟨fun hp u hu => by simp only [SimV, iteP_pos hp] at *; exact hu, fun hp u hu => by simp only [SimV, iteP_neg hp] at *; exact hu⟩
  case h_8 => cases h; exact ⟨fun hp u hu => by simp only [SimV, iteP_pos hp] at *; exact hu, fun hp u hu => by simp only [SimV, iteP_neg hp] at *; exact hu⟩
  case h_9 => cases h; exact ⟨fun hp u hu => by simp only [SimV, iteP_pos hp] at *; exact hu, fun hp u hu => by simp only [SimV, iteP_neg hp] at *; exact hu⟩
  case h_10 =>
    split at h <;> cases h
    rename_i b hb
    refine ⟨fun hp u hu => ?_, fun hp u hu => ?_⟩
    · simp only [SimV] at *; exact ⟨true, hu, by simp [hp]⟩
    · obtain ⟨c, rfl, hc⟩ := asQ_sim hb hu
      simp only [SimV]; exact ⟨c, rfl, by simp [hc, hp]⟩
  case h_11 =>
    split at h <;> cases h
    rename_i b hb
    refine ⟨fun hp u hu => ?_, fun hp u hu => ?_⟩
    · obtain ⟨c, rfl, hc⟩ := asQ_sim hb hu
      simp only [SimV]; exact ⟨c, rfl, by simp [hc, hp]⟩
    · simp only [SimV] at *; exact ⟨false, hu, by simp [hp]⟩
  case h_12 =>
    split at h <;> cases h
    rename_i b hb
    refine ⟨fun hp u hu => ?_, fun hp u hu => ?_⟩
    · simp only [SimV] at *; exact ⟨false, hu, by simp [hp]⟩
    · obtain ⟨c, rfl, hc⟩ := asQ_sim hb hu
      simp only [SimV]; exact ⟨c, rfl, by simp [hc, hp]⟩
  case h_13 =>
    split at h
    · cases h
      rename_i a b ha hb
      refine ⟨fun hp u hu => ?_, fun hp u hu => ?_⟩
      · obtain ⟨c, rfl, hc⟩ := asQ_sim ha hu
        simp only [SimV]; exact ⟨c, rfl, by simp [hc, hp]⟩
      · obtain ⟨c, rfl, hc⟩ := asQ_sim hb hu
        simp only [SimV]; exact ⟨c, rfl, by simp [hc, hp]⟩
    · split at h <;> cases h
      rename_i hs
      have := sameV_eq hs
      subst this
      exact ⟨fun _ _ h => h, fun _ _ h => h⟩
theorem pickL_sound {p : Prop} : ∀ {xs ys zs : List TV}, pickL p xs ys = some zs → (p → ∀ u, SimL H xs u → SimL H zs u) ∧ (¬ p → ∀ u, SimL H ys u → SimL H zs u)
  | [], [], _, h => by simp only [pickL, Option.some.injEq] at h; subst h; exact ⟨fun _ _ h => h, fun _ _ h => h⟩
  | [], _ :: _, _, h => by simp [pickL] at h
  | _ :: _, [], _, h => by simp [pickL] at h
  | x :: xs, y :: ys, zs, h => by
    simp only [pickL] at h
    split at h <;> cases h
    rename_i h1 h2
    have g1 := pickS_sound (H := H) h1
    have g2 := pickL_sound h2
    refine ⟨fun hp u hu => ?_, fun hp u hu => ?_⟩ <;> simp only [SimL] at hu ⊢ <;> obtain ⟨a, as, rfl, e1, e2⟩ := hu
    · exact ⟨a, as, rfl, g1.1 hp _ e1, g2.1 hp _ e2⟩
    · exact ⟨a, as, rfl, g1.2 hp _ e1, g2.2 hp _ e2⟩
theorem pickV_sound {p : Prop} {x y z : TV} (h : pickV p x y = some z) : (p → ∀ u, SimV H x u → SimV H z u) ∧ (¬ p → ∀ u, SimV H y u → SimV H z u) := by
  unfold pickV at h
  split at h
  · split at h
    · cases h
      rename_i hs
      rw [← sameV_eq hs]
      exact ⟨fun _ _ h => h, fun _ _ h => h⟩
    · split at h <;> cases h
      rename_i hl
      have g := pickL_sound (H := H) hl
      refine ⟨fun hp u hu => ?_, fun hp u hu => ?_⟩ <;> simp only [SimV] at hu ⊢ <;> obtain ⟨a, rfl, e1⟩ := hu
      · exact ⟨a, rfl, g.1 hp _ e1⟩
      · exact ⟨a, rfl, g.2 hp _ e1⟩
  · exact pickS_sound h
end
end Go.Vc
