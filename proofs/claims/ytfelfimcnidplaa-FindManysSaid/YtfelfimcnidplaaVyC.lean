/-
  When a typed reading describes the store: values, frames, objects.
-/
import Derived.Test.YtfelfimcnidplaaVyB
set_option linter.unusedVariables false
set_option linter.unusedSimpArgs false
namespace Go.Vc

/-- Where an object lies; of a row of rows where its rows lie, and how long they are. -/
structure Hd where
  loc : Option (Nat × Nat)
  k : Nat
  len : Nat
  sub : List (Option (Nat × Nat) × Nat)
abbrev HF := Nat → Option Hd

def slA : Option (Nat × Nat) → Nat → Nat → AVal
  | none, _, _ => .nils
  | some (p, v), off, n => .sl p v off n

mutual
def SimV (H : HF) : TV → AVal → Prop
  | .junk, _ => True
  | .tt, y => y = .bool true
  | .ff, y => y = .bool false
  | .bb b, y => y = .bool b
  | .pr p, y => ∃ b, y = .bool b ∧ (b = true ↔ p)
  | .gd p, y => (y = .tt ∧ p) ∨ (y = .ff ∧ ¬ p)
  | .int k n, y => y = .int k n
  | .byte b, y => y = .int .u8 (b.toNat : Int)
  | .str s, y => y = .str s
  | .nilp, y => y = .nilp
  | .nilf, y => y = .nilf
  | .nilm, y => y = .nilm
  | .nili, y => y = .nili
  | .nils, y => y = .nils
  | .cst v, y => y = .cst v
  | .ptr l off, y => ∃ h p v, H l = some h ∧ h.loc = some (p, v) ∧ y = .ptr p v off
  | .eptr l i fo, y => ∃ h p v, H l = some h ∧ h.loc = some (p, v) ∧ 0 ≤ i ∧ i < h.len ∧ y = .ptr p v (i.toNat * h.k + fo)
  | .rop cs, y => ∃ xs, y = .rop xs ∧ SimL H cs xs
  | .ros t l, y => y = .ros l.length (l.flatMap (encT t))
  | .slf l, y => ∃ h, H l = some h ∧ y = slA h.loc 0 h.len
  | .ifs t l, y => ∃ h, H l = some h ∧ y = .iface t (slA h.loc 0 h.len)
  | .sl l off len, y => ∃ h, H l = some h ∧ 0 ≤ off ∧ 0 ≤ len ∧ off + len ≤ h.len ∧ y = slA h.loc (off.toNat * h.k) len.toNat
  | .agg cs, y => ∃ xs, y = .agg xs ∧ SimL H cs xs
  | .tup cs, y => ∃ xs, y = .tup xs ∧ SimL H cs xs
  | .fn f cap, y => ∃ xs, y = .fn (.func f) [] xs ∧ SimL H cap xs
  | .inn l i, y => ∃ h q, H l = some h ∧ 0 ≤ i ∧ h.sub[i.toNat]? = some q ∧ y = slA q.1 0 q.2
  | .ieptr l i j k fo, y => ∃ h p v n, H l = some h ∧ 0 ≤ i ∧ h.sub[i.toNat]? = some (some (p, v), n) ∧ 0 ≤ j ∧ j < (n : Int) ∧ y = .ptr p v (j.toNat * k + fo)
def SimL (H : HF) : List TV → List AVal → Prop
  | [], ys => ys = []
  | x :: xs, ys => ∃ y zs, ys = y :: zs ∧ SimV H x y ∧ SimL H xs zs
end

section
variable {H : HF}
theorem SimL.nil {ys : List AVal} : SimL H [] ys ↔ ys = [] := by simp only [SimL]
theorem SimL.length : ∀ {xs : List TV} {ys : List AVal}, SimL H xs ys → ys.length = xs.length
  | [], _, h => by simp only [SimL] at h; simp [h]
  | x :: xs, _, h => by
    simp only [SimL] at h
    obtain ⟨y, zs, rfl, _, h⟩ := h
    simp [SimL.length h]
theorem SimL.append : ∀ {xs : List TV} {ys : List AVal} {xs' : List TV} {ys' : List AVal}, SimL H xs ys → SimL H xs' ys' → SimL H (xs ++ xs') (ys ++ ys')
  | [], _, _, _, h, h' => by simp only [SimL] at h; subst h; simpa using h'
  | x :: xs, _, _, _, h, h' => by
    simp only [SimL] at h
    obtain ⟨y, zs, rfl, h1, h2⟩ := h
    simp only [List.cons_append, SimL]
    exact ⟨_, _, rfl, h1, h2.append h'⟩
theorem SimL.drop : ∀ {xs : List TV} {ys : List AVal} (n : Nat), SimL H xs ys → SimL H (xs.drop n) (ys.drop n)
  | xs, ys, 0, h => by simpa using h
  | [], _, n + 1, h => by simp only [SimL] at h; subst h; simp [SimL]
  | x :: xs, _, n + 1, h => by
    simp only [SimL] at h
    obtain ⟨y, zs, rfl, _, h⟩ := h
    simpa using h.drop n
theorem SimL.takeG : ∀ {n : Nat} {xs xs' : List TV} {ys : List AVal}, SimL H xs ys → takeG n xs = some xs' → ∃ ys', takeN n ys = some ys' ∧ SimL H xs' ys'
  | 0, _, _, _, _, h => by simp [Vc.takeG] at h; subst h; exact ⟨[], rfl, by simp [SimL]⟩
  | n + 1, [], _, _, _, h => by simp [Vc.takeG] at h
  | n + 1, x :: xs, _, _, hs, h => by
    simp only [SimL] at hs
    obtain ⟨y, zs, rfl, h1, h2⟩ := hs
    simp only [Vc.takeG] at h
    split at h <;> cases h
    rename_i r hr
    obtain ⟨ys', g1, g2⟩ := h2.takeG hr
    exact ⟨y :: ys', by simp [takeN, g1], by simp only [SimL]; exact ⟨_, _, rfl, h1, g2⟩⟩
theorem SimL.overG : ∀ {xs zs : List TV} {ys ws : List AVal}, SimL H xs ys → SimL H zs ws → SimL H (overG xs zs) (over ys ws)
  | [], zs, _, _, h, _ => by simp only [SimL] at h; subst h; cases zs <;> simp [Vc.overG, over, SimL]
  | x :: xs, [], _, _, h, h' => by
    simp only [SimL] at h' ; subst h'
    have h0 := h
    simp only [SimL] at h
    obtain ⟨y, zs, rfl, _, _⟩ := h
    simpa [Vc.overG, over] using h0
  | x :: xs, z :: zs, _, _, h, h' => by
    simp only [SimL] at h h'
    obtain ⟨y, ys, rfl, h1, h2⟩ := h
    obtain ⟨w, ws, rfl, g1, g2⟩ := h'
    simp only [Vc.overG, over, SimL]
    exact ⟨_, _, rfl, g1, h2.overG g2⟩
theorem SimL.setG : ∀ {n : Nat} {xs zs : List TV} {ys ws : List AVal}, SimL H xs ys → SimL H zs ws → SimL H (setG xs n zs) (setCells ys n ws)
  | 0, xs, zs, ys, ws, h, h' => by
    have e1 : Vc.setG xs 0 zs = Vc.overG xs zs := by cases xs <;> rfl
    have e2 : setCells ys 0 ws = over ys ws := by cases ys <;> rfl
    rw [e1, e2]; exact h.overG h'
  | n + 1, [], zs, _, ws, h, _ => by simp only [SimL] at h; subst h; simp [Vc.setG, setCells, SimL]
  | n + 1, x :: xs, zs, _, ws, h, h' => by
    simp only [SimL] at h
    obtain ⟨y, ys, rfl, h1, h2⟩ := h
    simp only [Vc.setG, setCells, SimL]
    exact ⟨_, _, rfl, h1, h2.setG h'⟩

theorem sizeIs_len {α : Type} : ∀ {l : List α} {n : Nat}, sizeIs l n = true → l.length = n
  | [], 0, _ => rfl
  | [], n + 1, h => by simp [sizeIs] at h
  | _ :: _, 0, h => by simp [sizeIs] at h
  | _ :: l, n + 1, h => by simp only [sizeIs] at h; simp [sizeIs_len h]
theorem sizeLe_len : ∀ {n : Nat} {l : List TV}, sizeLe n l = true → n ≤ l.length
  | 0, _, _ => Nat.zero_le _
  | n + 1, [], h => by simp [sizeLe] at h
  | n + 1, _ :: l, h => by simp only [sizeLe] at h; have := sizeLe_len h; simp; omega
theorem setG_length {α : Type} : ∀ {xs ys : List α} {n : Nat}, (Vc.setG xs n ys).length = xs.length
  | xs, ys, 0 => by
    have e1 : Vc.setG xs 0 ys = Vc.overG xs ys := by cases xs <;> rfl
    rw [e1]
    clear e1
    induction xs generalizing ys with
    | nil => cases ys <;> rfl
    | cons x xs ih => cases ys with
      | nil => rfl
      | cons y ys => simp only [Vc.overG, List.length_cons, ih]
  | [], ys, n + 1 => by simp [Vc.setG]
  | x :: xs, ys, n + 1 => by simp [Vc.setG, setG_length]

theorem beq_eq {a b : Nat} (h : Nat.beq a b = true) : a = b := Nat.eq_of_beq_eq_true h

theorem tvCells_sim {x : TV} {cs : List TV} {y : AVal} (h : tvCells x = some cs) (hs : SimV H x y) {K : List AVal → Prop} (hk : ∀ ys, SimL H cs ys → K ys) : wCells y K := by
  cases x <;> simp only [tvCells] at h <;> cases h <;> simp only [SimV] at hs
  case agg.refl =>
    obtain ⟨xs, rfl, hs⟩ := hs
    exact hk _ hs
  case slf.refl =>
    obtain ⟨h, h1, rfl⟩ := hs
    have := hk [slA h.loc 0 h.len] (by simp only [SimL, SimV]; exact ⟨_, [], rfl, ⟨h, h1, rfl⟩, rfl⟩)
    revert this
    cases h.loc <;> exact id
  case sl.refl =>
    rename_i l off len
    obtain ⟨h, h1, h2, h3, h4, rfl⟩ := hs
    have := hk [slA h.loc (off.toNat * h.k) len.toNat] (by simp only [SimL, SimV]; exact ⟨_, [], rfl, ⟨h, h1, h2, h3, h4, rfl⟩, rfl⟩)
    revert this
    cases h.loc <;> exact id
  case pr.refl =>
    obtain ⟨b, rfl, hb⟩ := hs
    exact hk _ (by simp only [SimL, SimV]; exact ⟨_, [], rfl, ⟨b, rfl, hb⟩, rfl⟩)
  case ptr.refl =>
    obtain ⟨h, p, v, h1, h2, rfl⟩ := hs
    exact hk _ (by simp only [SimL, SimV]; exact ⟨_, [], rfl, ⟨h, p, v, h1, h2, rfl⟩, rfl⟩)
  case eptr.refl =>
    obtain ⟨h, p, v, h1, h2, h3, h4, rfl⟩ := hs
    exact hk _ (by simp only [SimL, SimV]; exact ⟨_, [], rfl, ⟨h, p, v, h1, h2, h3, h4, rfl⟩, rfl⟩)
  case rop.refl =>
    obtain ⟨xs, rfl, h⟩ := hs
    exact hk _ (by simp only [SimL, SimV]; exact ⟨_, [], rfl, ⟨xs, rfl, h⟩, rfl⟩)
  case fn.refl =>
    obtain ⟨xs, rfl, h⟩ := hs
    exact hk _ (by simp only [SimL, SimV]; exact ⟨_, [], rfl, ⟨xs, rfl, h⟩, rfl⟩)
  all_goals
    subst hs
    exact hk _ (by simp only [SimL, SimV]; exact ⟨_, [], rfl, rfl, rfl⟩)
end

/-! ### Constants -/
theorem ofS_sim {H : HF} {x : AVal} {t : TV} (h : ofS x = some t) : SimV H t x := by
  unfold ofS at h
  split at h <;> cases h <;> simp [SimV, SimL]
theorem ofL_sim {H : HF} : ∀ {xs : List AVal} {ts : List TV}, ofL xs = some ts → SimL H ts xs
  | [], _, h => by simp [ofL] at h; subst h; simp [SimL]
  | x :: xs, _, h => by
    simp only [ofL] at h
    split at h <;> cases h
    rename_i y ys h1 h2
    simp only [SimL]
    exact ⟨_, _, rfl, ofS_sim h1, ofL_sim h2⟩
theorem ofA_sim {H : HF} {x : AVal} {t : TV} (h : ofA x = some t) : SimV H t x := by
  unfold ofA at h
  split at h
  · split at h <;> cases h
    rename_i h1
    simp only [SimV]
    exact ⟨_, rfl, ofL_sim h1⟩
  · exact ofS_sim h

/-! ### Frames -/
def holds (A : Frame) (gs : List (Nat × Bool)) : Prop := ∀ q ∈ gs, A.get q.1 = if q.2 then .tt else .ff

structure EntOk (H : HF) (A : Frame) (s : Nat) (gs : List (Nat × Bool)) (P : Prop) (x : TV) : Prop where
  on : holds A gs → SimV H x (A.get s)
  off : ¬ holds A gs → A.get s = .tup []
  iff : holds A gs ↔ P

def SimF (H : HF) (F : RF) (A : Frame) : Prop := ∀ s gs P x, lookN F s = some (gs, P, x) → EntOk H A s gs P x

theorem eqPath_eq : ∀ {p q : List (Nat × Bool)}, eqPath p q = true → p = q
  | [], [], _ => rfl
  | [], _ :: _, h => by simp [eqPath] at h
  | (a, x) :: p, [], h => by cases x <;> simp [eqPath] at h
  | (a, x) :: p, (b, y) :: q, h => by
    cases x <;> cases y <;> simp only [eqPath] at h <;> first | (cases h; done) | skip
    all_goals
      split at h <;> first | (cases h; done) | skip
      rename_i hb
      rw [beq_eq hb, eqPath_eq h]
theorem sufx_holds {A : Frame} {gs : List (Nat × Bool)} : ∀ {p : List (Nat × Bool)}, sufx gs p = true → holds A p → holds A gs
  | [], h, _ => by
    cases gs with
    | nil => intro q hq; cases hq
    | cons => simp [sufx] at h
  | q :: p, h, hp => by
    simp only [sufx] at h
    split at h
    · rename_i he
      rw [eqPath_eq he]; exact hp
    · exact sufx_holds h fun r hr => hp r (by simp [hr])
theorem holds_nil {A : Frame} : holds A [] := fun q hq => by cases hq

section
variable {H : HF} {F : RF} {A : Frame} {path : List (Nat × Bool)}
theorem rdP_sim (hF : SimF H F A) (hp : holds A path) {r : Rand} {x : TV} (h : rdP F path r = some x) : SimV H x (rd A r) := by
  cases r with
  | c x => exact ofA_sim h
  | t n =>
    simp only [rdP] at h
    split at h
    · rename_i gs P y hl
      split at h <;> cases h
      rename_i hs
      exact (hF _ _ _ _ hl).on (sufx_holds hs hp)
    · cases h
theorem rdPs_sim (hF : SimF H F A) (hp : holds A path) : ∀ {rs : List Rand} {xs : List TV}, rdPs F path rs = some xs → SimL H xs (rs.map (rd A))
  | [], _, h => by simp [rdPs] at h; subst h; simp [SimL]
  | r :: rs, _, h => by
    simp only [rdPs] at h
    split at h <;> cases h
    rename_i h1 h2
    simp only [List.map_cons, SimL]
    exact ⟨_, _, rfl, rdP_sim hF hp h1, rdPs_sim hF hp h2⟩
theorem fillT_sim (hF : SimF H F A) (hp : holds A path) {K : List AVal → Prop} : ∀ {ps : List (Nat × Nat × Rand)} {cs zs : List TV} {ys : List AVal}, fillT F path cs ps = some zs → SimL H cs ys → (∀ ws, SimL H zs ws → K ws) → wFill A ys K ps
  | [], cs, zs, ys, h, hs, hk => by simp [fillT] at h; subst h; exact hk _ hs
  | (off, n, x) :: ps, cs, zs, ys, h, hs, hk => by
    simp only [fillT] at h
    split at h
    · rename_i x' hx
      split at h
      · rename_i us hu
        split at h
        · rename_i h1 h2
          simp only [wFill, rdK_iff]
          refine tvCells_sim hu (rdP_sim hF hp hx) fun ws hw => ?_
          have e1 := hw.length
          have e2 := hs.length
          have e3 := sizeIs_len h1
          have e4 := sizeLe_len h2
          refine ⟨by omega, by omega, ?_⟩
          rw [setCellsK_iff]
          exact fillT_sim hF hp h (hs.setG hw) hk
        · cases h
      · cases h
    · cases h
end

/-! ### Typed cells -/
mutual
theorem cellsT_sim {H : HF} : ∀ (t : Ty) (x : T t), SimL H (cellsT t x) (encT t x)
  | .int k, n => by simp [cellsT, encT, SimL, SimV]
  | .str, s => by simp [cellsT, encT, SimL, SimV]
  | .bool, b => by simp [cellsT, encT, SimL, SimV]
  | .st fs, x => by simp only [cellsT, encT]; exact cellsTs_sim fs x
  | .sl e, l => by simp only [cellsT, encT, SimL, SimV]; exact ⟨_, [], rfl, rfl, rfl⟩
theorem cellsTs_sim {H : HF} : ∀ (ts : Tys) (x : Ts ts), SimL H (cellsTs ts x) (encTs ts x)
  | .nil, _ => by simp [cellsTs, encTs, SimL]
  | .cons t .nil, x => by simp only [cellsTs, encTs]; exact cellsT_sim t x
  | .cons t (.cons u ts), (x, y) => by simp only [cellsTs, encTs]; exact (cellsT_sim t x).append (cellsTs_sim (.cons u ts) y)
end
theorem tvA_sim {H : HF} : ∀ (t : Ty) (x : T t), SimV H (tvA t x) (encA t x)
  | .int k, n => by simp [tvA, encA, SimV]
  | .str, s => by simp [tvA, encA, SimV]
  | .bool, b => by simp [tvA, encA, SimV]
  | .st fs, x => by simp only [tvA, encA, SimV]; exact ⟨_, rfl, cellsTs_sim fs x⟩
  | .sl e, l => by simp only [tvA, encA, SimV]
theorem tvAs_sim {H : HF} : ∀ (ts : Tys) (x : Ts ts), SimL H (tvAs ts x) (encAs ts x)
  | .nil, _ => by simp [tvAs, encAs, SimL]
  | .cons t .nil, x => by simp only [tvAs, encAs, SimL]; exact ⟨_, [], rfl, tvA_sim t x, rfl⟩
  | .cons t (.cons u ts), (x, y) => by simp only [tvAs, encAs, SimL]; exact ⟨_, _, rfl, tvA_sim t x, tvAs_sim (.cons u ts) y⟩

mutual
theorem encT_length : ∀ (t : Ty) (x : T t), (encT t x).length = szT t
  | .int k, n => rfl
  | .str, s => rfl
  | .bool, b => rfl
  | .st fs, x => by simp only [encT, szT]; exact encTs_length fs x
  | .sl e, l => rfl
theorem encTs_length : ∀ (ts : Tys) (x : Ts ts), (encTs ts x).length = szTs ts
  | .nil, _ => rfl
  | .cons t .nil, x => by simp only [encTs, szTs, encT_length t x]; rfl
  | .cons t (.cons u ts), (x, y) => by simp only [encTs, List.length_append, encT_length t x, encTs_length (.cons u ts) y]; rfl
end
theorem cellsT_length (t : Ty) (x : T t) : (cellsT t x).length = szT t := by
  have := (cellsT_sim (H := fun _ => none) t x).length
  rw [encT_length] at this
  exact this.symm

theorem asI_sim {H : HF} {x : TV} {y : AVal} {k : IntKind} {n : Int} (h : asI x = some (k, n)) (hs : SimV H x y) : y = .int k n := by
  cases x <;> simp only [asI] at h <;> cases h <;> simpa [SimV] using hs
theorem asB_sim {H : HF} {x : TV} {y : AVal} {b : Bool} (h : asB x = some b) (hs : SimV H x y) : y = .bool b := by
  cases x <;> simp only [asB] at h <;> cases h <;> simp only [SimV] at hs
  case pr.refl =>
    obtain ⟨b, rfl, hb⟩ := hs
    congr 1
    rw [Bool.eq_iff_iff, hb]
    simp [bo]
  all_goals exact hs
theorem kEq_eq {k k' : IntKind} {p : PLift (k = k')} (h : kEq k k' = some p) : k = k' := p.down

theorem decI_sim {H : HF} {k : IntKind} {cs r : List TV} {x : Int} {ys : List AVal} (h : decI k cs = some (x, r)) (hs : SimL H cs ys) : ∃ zs, ys = .int k x :: zs ∧ SimL H r zs := by
  cases cs with
  | nil => simp [decI] at h
  | cons c cs =>
    simp only [decI] at h
    split at h
    · rename_i k' n hi
      split at h <;> cases h
      rename_i hk
      have hk := kEq_eq hk
      subst hk
      simp only [SimL] at hs
      obtain ⟨y, zs, rfl, h1, h2⟩ := hs
      exact ⟨zs, by rw [asI_sim hi h1], h2⟩
    · cases h
theorem decStr_sim {H : HF} {cs r : List TV} {x : List UInt8} {ys : List AVal} (h : decStr cs = some (x, r)) (hs : SimL H cs ys) : ∃ zs, ys = .str x :: zs ∧ SimL H r zs := by
  unfold decStr at h
  split at h <;> cases h
  simp only [SimL, SimV] at hs
  obtain ⟨y, zs, rfl, rfl, h2⟩ := hs
  exact ⟨zs, rfl, h2⟩
theorem decBool_sim {H : HF} {cs r : List TV} {x : Bool} {ys : List AVal} (h : decBool cs = some (x, r)) (hs : SimL H cs ys) : ∃ zs, ys = .bool x :: zs ∧ SimL H r zs := by
  cases cs with
  | nil => simp [decBool] at h
  | cons c cs =>
    simp only [decBool] at h
    split at h <;> cases h
    rename_i hb
    simp only [SimL] at hs
    obtain ⟨y, zs, rfl, h1, h2⟩ := hs
    exact ⟨zs, by rw [asB_sim hb h1], h2⟩
theorem decSl_sim {H : HF} {e : Ty} {cs r : List TV} {x : List (T e)} {ys : List AVal} (h : decSl e cs = some (x, r)) (hs : SimL H cs ys) : ∃ zs, ys = .ros x.length (x.flatMap (encT e)) :: zs ∧ SimL H r zs := by
  unfold decSl at h
  split at h
  · split at h <;> cases h
    rename_i hh _
    subst hh
    simp only [SimL, SimV] at hs
    obtain ⟨y, zs, rfl, rfl, h2⟩ := hs
    exact ⟨zs, rfl, h2⟩
  · cases h
mutual
theorem decC_sim {H : HF} : ∀ (t : Ty) {cs r : List TV} {x : T t} {ys : List AVal}, decC t cs = some (x, r) → SimL H cs ys → ∃ zs, ys = encT t x ++ zs ∧ SimL H r zs
  | .int k, cs, r, x, ys, h, hs => by simp only [decC] at h; exact decI_sim h hs
  | .str, cs, r, x, ys, h, hs => by simp only [decC] at h; exact decStr_sim h hs
  | .bool, cs, r, x, ys, h, hs => by simp only [decC] at h; exact decBool_sim h hs
  | .st fs, cs, r, x, ys, h, hs => by simp only [decC] at h; exact decCs_sim fs h hs
  | .sl e, cs, r, x, ys, h, hs => by simp only [decC] at h; exact decSl_sim h hs
theorem decCs_sim {H : HF} : ∀ (ts : Tys) {cs r : List TV} {x : Ts ts} {ys : List AVal}, decCs ts cs = some (x, r) → SimL H cs ys → ∃ zs, ys = encTs ts x ++ zs ∧ SimL H r zs
  | .nil, cs, r, x, ys, h, hs => by
    simp only [decCs, Option.some.injEq, Prod.mk.injEq] at h
    obtain ⟨_, rfl⟩ := h
    exact ⟨ys, rfl, hs⟩
  | .cons t .nil, cs, r, x, ys, h, hs => by
    simp only [decCs] at h
    exact decC_sim t h hs
  | .cons t (.cons u ts), cs, r, x, ys, h, hs => by
    simp only [decCs] at h
    split at h
    · rename_i a r1 h1
      split at h <;> cases h
      rename_i b h2
      obtain ⟨zs, rfl, g1⟩ := decC_sim t h1 hs
      obtain ⟨ws, rfl, g2⟩ := decCs_sim (.cons u ts) h2 g1
      exact ⟨ws, by simp [encTs], g2⟩
    · cases h
end
end Go.Vc
