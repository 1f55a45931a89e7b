/-
  Ropes that are split and played; numbers and places of texts one behind the other.
-/
import Derived.Test.YtgiglabejffciaaVpRP
set_option linter.unusedVariables false
set_option linter.unusedSimpArgs false
namespace Go.Fu
open Go.Vc
theorem deep_le {r : Rp} (h : r.bal) {k : Nat} (hk : r.txt.length < 2 ^ k) : r.deep ≤ 2 * k := by
  have h1 := (bal_len r h).1
  have : (r.deep - 1) / 2 < k := by
    apply Classical.byContradiction
    intro c
    have := Nat.pow_le_pow_right (show 0 < 2 by omega) (show k ≤ (r.deep - 1) / 2 by omega)
    omega
  omega
theorem rNew_len8 : ∀ (n : Nat) (s t : Bytes), s.length ≤ n → t.length ≤ n → s.length ≤ t.length → t.length ≤ s.length + 1 → (rNew s).deep ≤ (rNew t).deep ∧ (rNew t).deep ≤ (rNew s).deep + 1
  | 0, s, t, h1, h2, h3, h4 => by rw [rNew_small (by omega), rNew_small (s := t) (by omega)]; simp [Rp.deep]
  | n + 1, s, t, h1, h2, h3, h4 => by
    by_cases hs : s.length ≤ 8
    · rw [rNew_small hs]
      by_cases ht : t.length ≤ 8
      · rw [rNew_small ht]; simp [Rp.deep]
      · rw [rNew_big ht, rNew_small (s := t.take (t.length / 2)) (by rw [List.length_take]; omega), rNew_small (s := t.drop (t.length / 2)) (by rw [List.length_drop]; omega)]
        simp [Rp.deep]
    · rw [rNew_big hs, rNew_big (s := t) (by omega)]
      have e1 : (s.take (s.length / 2)).length = s.length / 2 := by rw [List.length_take]; omega
      have e2 : (t.take (t.length / 2)).length = t.length / 2 := by rw [List.length_take]; omega
      have e3 : (s.drop (s.length / 2)).length = s.length - s.length / 2 := by rw [List.length_drop]
      have e4 : (t.drop (t.length / 2)).length = t.length - t.length / 2 := by rw [List.length_drop]
      have a := rNew_len8 n _ _ (by rw [e1]; omega) (by rw [e2]; omega) (by rw [e1, e2]; omega) (by rw [e1, e2]; omega)
      have b := rNew_len8 n _ _ (by rw [e3]; omega) (by rw [e4]; omega) (by rw [e3, e4]; omega) (by rw [e3, e4]; omega)
      simp only [Rp.deep]; omega
theorem rNew_bal : ∀ (n : Nat) (s : Bytes), s.length ≤ n → s ≠ [] → (rNew s).bal
  | 0, s, h, hs => absurd (List.eq_nil_of_length_eq_zero (by omega)) hs
  | n + 1, s, h, hs => by
    by_cases h8 : s.length ≤ 8
    · rw [rNew_small h8]; exact hs
    · rw [rNew_big h8]
      have e1 : (s.take (s.length / 2)).length = s.length / 2 := by rw [List.length_take]; omega
      have e3 : (s.drop (s.length / 2)).length = s.length - s.length / 2 := by rw [List.length_drop]
      have d := rNew_len8 s.length (s.take (s.length / 2)) (s.drop (s.length / 2)) (by omega) (by omega) (by omega) (by omega)
      exact ⟨rNew_bal n _ (by omega) (fun e => by rw [e] at e1; simp at e1; omega), rNew_bal n _ (by omega) (fun e => by rw [e] at e3; simp at e3; omega), by omega, by omega⟩
/-! ### Ropes that may be nil -/
abbrev Ro := Option Rp
def txtO : Ro → Bytes
  | none => []
  | some r => r.txt
def deepO : Ro → Nat
  | none => 0
  | some r => r.deep
def balO : Ro → Prop
  | none => True
  | some r => r.bal
def rJoinO : Ro → Ro → Ro
  | none, b => b
  | some a, none => some a
  | some a, some b => some (rJoin a b)
def rSplit : Rp → Nat → Ro × Ro
  | .leaf s, n => if n = 0 then (none, some (.leaf s)) else if s.length ≤ n then (some (.leaf s), none) else (some (.leaf (s.take n)), some (.leaf (s.drop n)))
  | .node a b, n => if n = 0 then (none, some (.node a b)) else if (Rp.node a b).txt.length ≤ n then (some (.node a b), none)
    else if n ≤ a.txt.length then ((rSplit a n).1, rJoinO (rSplit a n).2 (some b)) else (rJoinO (some a) (rSplit b (n - a.txt.length)).1, (rSplit b (n - a.txt.length)).2)
def rSplitO : Ro → Nat → Ro × Ro
  | none, _ => (none, none)
  | some r, n => rSplit r n
theorem rJoinO_txt (a b : Ro) : txtO (rJoinO a b) = txtO a ++ txtO b := by
  cases a <;> cases b <;> simp [rJoinO, txtO, rJoin_txt _ _ _ (Nat.le_refl _)]
theorem rJoinO_bal {a b : Ro} (ha : balO a) (hb : balO b) : balO (rJoinO a b) := by
  cases a <;> cases b <;> first | exact ha | exact hb | exact (rJoin_ok _ _ _ (Nat.le_refl _) ha hb).1
theorem rSplit_txt : ∀ (r : Rp) (n : Nat), txtO (rSplit r n).1 = r.txt.take n ∧ txtO (rSplit r n).2 = r.txt.drop n
  | .leaf s, n => by
    unfold rSplit
    split
    · rename_i e; subst e; simp [txtO, Rp.txt]
    · split
      · rename_i c; simp [txtO, Rp.txt, List.take_of_length_le c, List.drop_of_length_le c]
      · simp [txtO, Rp.txt]
  | .node a b, n => by
    unfold rSplit
    split
    · rename_i e; subst e; simp [txtO, Rp.txt]
    · split
      · rename_i c; simp [txtO, List.take_of_length_le c, List.drop_of_length_le c]
      · split
        · rename_i c
          obtain ⟨h1, h2⟩ := rSplit_txt a n
          refine ⟨?_, ?_⟩
          · simp only [h1, Rp.txt]; rw [List.take_append_of_le_length c]
          · show txtO (rJoinO _ _) = _
            rw [rJoinO_txt, h2]; simp only [txtO, Rp.txt]; rw [List.drop_append_of_le_length c]
        · rename_i c
          obtain ⟨h1, h2⟩ := rSplit_txt b (n - a.txt.length)
          refine ⟨?_, ?_⟩
          · show txtO (rJoinO _ _) = _
            rw [rJoinO_txt, h1]; simp only [txtO, Rp.txt]; rw [List.take_append, List.take_of_length_le (show a.txt.length ≤ n by omega)]
          · simp only [h2, Rp.txt]; rw [List.drop_append, List.drop_of_length_le (show a.txt.length ≤ n by omega), List.nil_append]
theorem rSplit_bal : ∀ (r : Rp) (n : Nat), r.bal → balO (rSplit r n).1 ∧ balO (rSplit r n).2
  | .leaf s, n, h => by
    unfold rSplit
    split
    · exact ⟨trivial, h⟩
    · split
      · exact ⟨h, trivial⟩
      · rename_i c0 c
        exact ⟨fun e => by have := congrArg List.length e; rw [List.length_take, List.length_nil] at this; omega, fun e => by have := congrArg List.length e; rw [List.length_drop, List.length_nil] at this; omega⟩
  | .node a b, n, h => by
    unfold rSplit
    split
    · exact ⟨trivial, h⟩
    · split
      · exact ⟨h, trivial⟩
      · split
        · obtain ⟨h1, h2⟩ := rSplit_bal a n h.1
          exact ⟨h1, rJoinO_bal h2 h.2.1⟩
        · obtain ⟨h1, h2⟩ := rSplit_bal b (n - a.txt.length) h.2.1
          exact ⟨rJoinO_bal (a := some a) h.1 h1, h2⟩
/-! ### Texts one behind the other -/
theorem posOf_app (s t : Bytes) : posOf (s ++ t) = posAdd (posOf s) (posOf t) := by
  induction t using snoc_rec with
  | h0 => simp [posOf, posAdd]
  | h1 t c ih =>
    rw [← List.append_assoc, posOf_snoc, ih, posOf_snoc]
    simp only [posAdd, posStep]
    have hb := posOf_bd t
    split
    · rename_i e
      refine Prod.ext (by simp only; omega) (Prod.ext (by simp only; omega) ?_)
      simp only
      rw [if_neg (by omega)]
    · rename_i e
      refine Prod.ext (by simp only; omega) (Prod.ext (by simp only) ?_)
      simp only
      split <;> first | rfl | omega
theorem posOk_of {s : Bytes} (h : s.length ≤ 1099511627776) : posOk (posOf s) := by
  have := posOf_bd s
  unfold posOk; omega
theorem posJoin_of {s t : Bytes} (h : s.length + t.length ≤ 1099511627776) : posJoin (posOf s) (posOf t) = (posOf (s ++ t), 0) := by
  unfold posJoin
  rw [if_pos ⟨posOk_of (by omega), posOk_of (by omega), by rw [← posOf_app]; exact posOk_of (by simp; omega)⟩, posOf_app]
theorem shift_pos (s : Bytes) : 0 < (polyOf s).2 := by
  induction s using snoc_rec with
  | h0 => simp [polyOf]
  | h1 s c ih =>
    rw [polyOf_snoc]
    have hb := polyOf_bd s
    simp only [polyStep]
    have h0 : 0 ≤ (polyOf s).2 * 257 % 2147483647 := Int.emod_nonneg _ (by decide)
    rcases Int.lt_or_eq_of_le h0 with h | h
    · exact h
    · exfalso
      have d : (2147483647 : Int) ∣ (polyOf s).2 * 257 := Int.dvd_of_emod_eq_zero h.symm
      have d' : (2147483647 : Nat) ∣ (polyOf s).2.toNat * 257 := by
        have : (((polyOf s).2.toNat * 257 : Nat) : Int) = (polyOf s).2 * 257 := by rw [Int.natCast_mul, Int.toNat_of_nonneg (by omega)]; rfl
        rw [← this] at d
        exact Int.natCast_dvd_natCast.1 d
      have := Nat.Coprime.dvd_of_dvd_mul_right (show Nat.Coprime 2147483647 257 by decide) d'
      have := Nat.le_of_dvd (by omega) this
      omega
theorem polyOk_of (s : Bytes) : polyOk (polyOf s) := by
  have := polyOf_bd s
  have := shift_pos s
  unfold polyOk; omega
theorem polyJoin_of (s t : Bytes) : polyJoin (polyOf s) (polyOf t) = (polyOf (s ++ t), 0) := by
  unfold polyJoin
  rw [if_pos ⟨polyOk_of s, polyOk_of t⟩]
  by_cases ht : t = []
  · subst ht
    have := polyOf_bd s
    simp only [List.append_nil]
    refine Prod.ext (Prod.ext ?_ ?_) rfl
    · simp only [polyOf, List.foldl_nil] at *; omega
    · simp only [polyOf, List.foldl_nil] at *; omega
  · have := poly_from (polyOf s).1 (polyOf s).2 t ht
    have e : polyOf (s ++ t) = t.foldl polyStep (polyOf s) := by simp [polyOf]
    rw [e, show polyOf s = ((polyOf s).1, (polyOf s).2) from rfl, this]
/-! ### Operations -/
abbrev Op := Int × Bytes × Int × Int × Int × Int
def opThere (n : Nat) (i : Int) : Prop := 0 ≤ i ∧ i < n
instance (n : Nat) (i : Int) : Decidable (opThere n i) := by unfold opThere; infer_instance
def opFault (T : List Bytes) (o : Op) : Int :=
  if o.1 < 1 ∨ 5 < o.1 then 3
  else if (o.1 ≠ 1 ∧ ¬ opThere T.length o.2.2.1) ∨ (o.1 = 2 ∧ ¬ opThere T.length o.2.2.2.1) then 7
  else if ((o.1 = 3 ∨ o.1 = 4) ∧ (o.2.2.2.2.1 < 0 ∨ (gt T o.2.2.1).length < o.2.2.2.2.1)) ∨ (o.1 = 5 ∧ (o.2.2.2.2.2 < 0 ∨ 4 < o.2.2.2.2.2)) then 2
  else if T.length = 60 then 8 else 0
def opText (T : List Bytes) (o : Op) : Bytes :=
  if o.1 = 1 then o.2.1 else if o.1 = 2 then gt T o.2.2.1 ++ gt T o.2.2.2.1 else if o.1 = 3 then (gt T o.2.2.1).take o.2.2.2.2.1.toNat
  else if o.1 = 4 then (gt T o.2.2.1).drop o.2.2.2.2.1.toNat else (List.replicate o.2.2.2.2.2.toNat (gt T o.2.2.1)).flatten
def opCode (T : List Bytes) (o : Op) : Int := if opFault T o ≠ 0 then opFault T o else if 600 < (opText T o).length then 1 else 0
def opNext (T : List Bytes) (o : Op) : List Bytes := if opCode T o = 0 then T ++ [opText T o] else T
def rCopies : Nat → Ro → Ro
  | 0, _ => none
  | n + 1, a => rJoinO (rCopies n a) a
def opRope (all : List Ro) (o : Op) : Ro :=
  if o.1 = 1 then (if o.2.1 = [] then none else some (rNew o.2.1)) else if o.1 = 2 then rJoinO (gt all o.2.2.1) (gt all o.2.2.2.1) else if o.1 = 3 then (rSplitO (gt all o.2.2.1) o.2.2.2.2.1.toNat).1
  else if o.1 = 4 then (rSplitO (gt all o.2.2.1) o.2.2.2.2.1.toNat).2 else rCopies o.2.2.2.2.2.toNat (gt all o.2.2.1)
def ropeNext (all : List Ro) (o : Op) : List Ro := if opCode (all.map txtO) o = 0 then all ++ [opRope all o] else all
def ropeRun (l : List Op) : List Ro := l.foldl ropeNext []
def opsT (l : List Op) : List Bytes := l.foldl opNext []
def opsC : List Bytes → List Op → List Int
  | _, [] => []
  | T, o :: l => opCode T o :: opsC (opNext T o) l
structure ROk (all : List Ro) : Prop where
  bal : ∀ r ∈ all, balO r
  len : ∀ r ∈ all, (txtO r).length ≤ 600
  few : all.length ≤ 60
theorem gt_txt {all : List Ro} {i : Int} (h : opThere all.length i) : gt (all.map txtO) i = txtO (gt all i) := by
  obtain ⟨h0, h1⟩ := h
  rw [gt_in h0 (by simpa using h1), gt_in h0 h1]; simp
theorem rCopies_txt (a : Ro) : ∀ n : Nat, txtO (rCopies n a) = (List.replicate n (txtO a)).flatten
  | 0 => rfl
  | n + 1 => by
    rw [List.replicate_succ', List.flatten_append]
    simp only [rCopies, rJoinO_txt, rCopies_txt a n]; simp
theorem rCopies_bal {a : Ro} (h : balO a) : ∀ n : Nat, balO (rCopies n a)
  | 0 => trivial
  | n + 1 => rJoinO_bal (rCopies_bal h n) h
theorem opFault_zero {T : List Bytes} {o : Op} (h : opFault T o = 0) : 1 ≤ o.1 ∧ o.1 ≤ 5 ∧ (o.1 ≠ 1 → opThere T.length o.2.2.1) ∧ (o.1 = 2 → opThere T.length o.2.2.2.1) ∧ (o.1 = 3 ∨ o.1 = 4 → 0 ≤ o.2.2.2.2.1 ∧ o.2.2.2.2.1 ≤ (gt T o.2.2.1).length) ∧ (o.1 = 5 → 0 ≤ o.2.2.2.2.2 ∧ o.2.2.2.2.2 ≤ 4) ∧ T.length ≠ 60 := by
  unfold opFault at h
  split at h
  · omega
  · rename_i c1
    split at h
    · omega
    · rename_i c2
      split at h
      · omega
      · rename_i c3
        split at h
        · omega
        · rename_i c4
          refine ⟨by omega, by omega, fun q => ?_, fun q => ?_, fun q => ?_, fun q => ?_, c4⟩
          · exact Classical.byContradiction fun z => c2 (.inl ⟨q, z⟩)
          · exact Classical.byContradiction fun z => c2 (.inr ⟨q, z⟩)
          · exact ⟨by omega, by omega⟩
          · exact ⟨by omega, by omega⟩
theorem splitO_txt (r : Ro) (n : Nat) : txtO (rSplitO r n).1 = (txtO r).take n ∧ txtO (rSplitO r n).2 = (txtO r).drop n := by
  cases r with
  | none => simp [rSplitO, txtO]
  | some r => exact rSplit_txt r n
theorem opRope_ok {all : List Ro} {o : Op} (h : opFault (all.map txtO) o = 0) (hb : ∀ r ∈ all, balO r) : txtO (opRope all o) = opText (all.map txtO) o ∧ balO (opRope all o) := by
  obtain ⟨f1, f2, f3, f4, f5, f6, f7⟩ := opFault_zero h
  rw [List.length_map] at f3 f4
  have mem : ∀ i, opThere all.length i → balO (gt all i) := fun i hi => hb _ (gt_mem hi.1 hi.2)
  unfold opRope opText
  by_cases c1 : o.1 = 1
  · rw [if_pos c1, if_pos c1]
    split
    · rename_i e; exact ⟨by rw [e]; rfl, trivial⟩
    · rename_i e; exact ⟨rNew_txt _ _ (Nat.le_refl _), rNew_bal _ _ (Nat.le_refl _) e⟩
  rw [if_neg c1, if_neg c1]
  have tA := f3 c1
  rw [gt_txt tA]
  by_cases c2 : o.1 = 2
  · rw [if_pos c2, if_pos c2, gt_txt (f4 c2)]
    exact ⟨rJoinO_txt _ _, rJoinO_bal (mem _ tA) (mem _ (f4 c2))⟩
  rw [if_neg c2, if_neg c2]
  by_cases c3 : o.1 = 3
  · rw [if_pos c3, if_pos c3]
    refine ⟨(splitO_txt _ _).1, ?_⟩
    have := mem _ tA
    cases hr : gt all o.2.2.1 with
    | none => trivial
    | some r => rw [hr] at this; exact (rSplit_bal r _ this).1
  rw [if_neg c3, if_neg c3]
  by_cases c4 : o.1 = 4
  · rw [if_pos c4, if_pos c4]
    refine ⟨(splitO_txt _ _).2, ?_⟩
    have := mem _ tA
    cases hr : gt all o.2.2.1 with
    | none => trivial
    | some r => rw [hr] at this; exact (rSplit_bal r _ this).2
  rw [if_neg c4, if_neg c4]
  exact ⟨rCopies_txt _ _, rCopies_bal (mem _ tA) _⟩
theorem rope_step {all : List Ro} (i : ROk all) (o : Op) : ROk (ropeNext all o) ∧ (ropeNext all o).map txtO = opNext (all.map txtO) o := by
  unfold ropeNext opNext
  by_cases h : opCode (all.map txtO) o = 0
  · rw [if_pos h, if_pos h]
    have hf : opFault (all.map txtO) o = 0 := by
      unfold opCode at h
      split at h
      · rename_i c; exact absurd h c
      · rename_i c; exact Classical.byContradiction c
    have hl : (opText (all.map txtO) o).length ≤ 600 := by
      unfold opCode at h
      rw [if_neg (by simpa using hf)] at h
      split at h <;> omega
    obtain ⟨t, b⟩ := opRope_ok hf i.bal
    refine ⟨⟨fun r hr => ?_, fun r hr => ?_, ?_⟩, by simp [t]⟩
    · rcases List.mem_append.1 hr with hr | hr
      · exact i.bal r hr
      · simp at hr; subst hr; exact b
    · rcases List.mem_append.1 hr with hr | hr
      · exact i.len r hr
      · simp at hr; subst hr; rw [t]; exact hl
    · have := (opFault_zero hf).2.2.2.2.2.2
      have := i.few
      simp only [List.length_map, List.length_append, List.length_singleton] at *; omega
  · rw [if_neg h, if_neg h]; exact ⟨i, rfl⟩
theorem rope_run (l : List Op) : ROk (ropeRun l) ∧ (ropeRun l).map txtO = opsT l := by
  have : ∀ (l : List Op) (all : List Ro), ROk all → ROk (l.foldl ropeNext all) ∧ (l.foldl ropeNext all).map txtO = l.foldl opNext (all.map txtO) := by
    intro l
    induction l with
    | nil => intro all i; exact ⟨i, rfl⟩
    | cons o l ih =>
      intro all i
      obtain ⟨h1, h2⟩ := rope_step i o
      have := ih _ h1
      rw [h2] at this
      exact this
  exact this l [] ⟨by simp, by simp, by simp⟩
theorem ropeRun_snoc (l : List Op) (o : Op) : ropeRun (l ++ [o]) = ropeNext (ropeRun l) o := by simp [ropeRun]
theorem opsT_snoc (l : List Op) (o : Op) : opsT (l ++ [o]) = opNext (opsT l) o := by simp [opsT]
theorem opsC_snoc : ∀ (l : List Op) (T : List Bytes) (o : Op), opsC T (l ++ [o]) = opsC T l ++ [opCode (l.foldl opNext T) o]
  | [], T, o => rfl
  | a :: l, T, o => by simp only [List.cons_append, opsC, List.foldl_cons]; rw [opsC_snoc l]
theorem opsC_len : ∀ (l : List Op) (T : List Bytes), (opsC T l).length = l.length
  | [], T => rfl
  | a :: l, T => by simp [opsC, opsC_len l]
noncomputable section
abbrev tOp : Ty := .st (.cons tI (.cons .str (.cons tI (.cons tI (.cons tI (.cons tI .nil))))))
abbrev opFits (o : Op) : Prop := inI64 o.1 ∧ fitS o.2.1 ∧ inI64 o.2.2.1 ∧ inI64 o.2.2.2.1 ∧ inI64 o.2.2.2.2.1 ∧ inI64 o.2.2.2.2.2
abbrev opsFit (l : List Op) : Prop := fitL l ∧ ∀ o ∈ l, opFits o
def ropeTexts (l : List Op) : List Bytes × List Int × Int := iteP (80 < l.length) ([], [], 1) (opsT l, opsC [] l, 0)
def ropeDepths (l : List Op) : List Int × Int := iteP (80 < l.length) ([], 1) ((ropeRun l).map fun r => (deepO r : Int), 0)
def ropeMeasure (l : List Op) : List (Int × Int × Int) × List (Int × Int) × Int := iteP (80 < l.length) ([], [], 1) ((opsT l).map posOf, (opsT l).map polyOf, 0)
def ref_RopePlayed_ct : Ct := ⟨tys1 (.sl tOp), [.own .str, .own tI, .val tI], fun l => opsFit l, fun l => ropeTexts l⟩
def rope_Depths_ct : Ct := ⟨tys1 (.sl tOp), [.own tI, .val tI], fun l => opsFit l, fun l => ropeDepths l⟩
def rope_Measure_ct : Ct := ⟨tys1 (.sl tOp), [.own tPos, .own tHash, .val tI], fun l => opsFit l, fun l => ropeMeasure l⟩
end
end Go.Fu
