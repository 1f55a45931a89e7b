/-
  A law's arguments, whatever plain data they are, opened at once; and the law's statement from its contract.
-/
import Derived.Test.YtkemhbclkglmbaaVxR
import Derived.ProofKit
import Derived.Below
import Derived.Carry
set_option linter.unusedVariables false
set_option linter.unusedSimpArgs false
namespace Go.Vc
open Go.ChangeShapes Go.WideShapes Go.ChangeAt Go.RowKit

mutual
inductive Ty where
  | int (k : IntKind)
  | str
  | bool
  | st (fs : Tys)
  | sl (e : Ty)
inductive Tys where
  | nil
  | cons (t : Ty) (ts : Tys)
end

mutual
def T : Ty → Type
  | .int _ => Int
  | .str => List UInt8
  | .bool => Bool
  | .st fs => Ts fs
  | .sl e => List (T e)
def Ts : Tys → Type
  | .nil => Unit
  | .cons t .nil => T t
  | .cons t (.cons u ts) => T t × Ts (.cons u ts)
end

mutual
def szT : Ty → Nat
  | .int _ => 1
  | .str => 1
  | .bool => 1
  | .st fs => szTs fs
  | .sl _ => 1
def szTs : Tys → Nat
  | .nil => 0
  | .cons t ts => szT t + szTs ts
end

mutual
/-- The cells of a value. -/
def encT : (t : Ty) → T t → List AVal
  | .int k, n => [.int k n]
  | .str, s => [.str s]
  | .bool, b => [.bool b]
  | .st fs, x => encTs fs x
  | .sl e, l => [.ros (List.length (α := T e) l) (List.flatMap (β := AVal) (α := T e) (encT e) l)]
def encTs : (ts : Tys) → Ts ts → List AVal
  | .nil, _ => []
  | .cons t .nil, x => encT t x
  | .cons t (.cons u ts), (x, y) => encT t x ++ encTs (.cons u ts) y
end

mutual
def okT : (t : Ty) → T t → Prop
  | .int k, n => LE.le (α := Int) k.min n ∧ LE.le (α := Int) n k.max
  | .str, s => List.length (α := UInt8) s ≤ 140737488351232
  | .bool, _ => True
  | .st fs, x => okTs fs x
  | .sl e, l => List.length (α := T e) l ≤ 140737488351232 ∧ ∀ x : T e, List.Mem x l → okT e x
def okTs : (ts : Tys) → Ts ts → Prop
  | .nil, _ => True
  | .cons t .nil, x => okT t x
  | .cons t (.cons u ts), (x, y) => okT t x ∧ okTs (.cons u ts) y
end

mutual
def wtT : (t : Ty) → T t → Nat
  | .int _, _ => 1
  | .str, s => List.length (α := UInt8) s + 1
  | .bool, _ => 1
  | .st fs, x => wtTs fs x + 1
  | .sl e, l => List.foldr (α := T e) (β := Nat) (fun x n => wtT e x + n) 1 l
def wtTs : (ts : Tys) → Ts ts → Nat
  | .nil, _ => 0
  | .cons t .nil, x => wtT t x
  | .cons t (.cons u ts), (x, y) => wtT t x + wtTs (.cons u ts) y
end

/-- The argument as it is handed: a structure as one value. -/
def encA : (t : Ty) → T t → AVal
  | .st fs, x => .agg (encTs fs x)
  | .int k, n => .int k n
  | .str, s => .str s
  | .bool, b => .bool b
  | .sl e, l => .ros (List.length (α := T e) l) (List.flatMap (β := AVal) (α := T e) (encT e) l)
def encAs : (ts : Tys) → Ts ts → List AVal
  | .nil, _ => []
  | .cons t .nil, x => [encA t x]
  | .cons t (.cons u ts), (x, y) => encA t x :: encAs (.cons u ts) y

/-! ### The types of a program -/
def tyFields (P : Program) (go : TypeId → Option Ty) : Nat → List Field → Option (Tys × Nat)
  | off, [] => some (.nil, off)
  | off, f :: fs => if f.offset = off then (match go f.type with
    | some t => if szT t = P.cellsOf f.type then (match tyFields P go (off + P.cellsOf f.type) fs with | some (ts, n) => some (.cons t ts, n) | none => none) else none
    | none => none) else none
def tyOf (P : Program) : Nat → TypeId → Option Ty
  | 0, _ => none
  | n + 1, t => match P.underlying t with
    | some (.int k) => some (.int k)
    | some .string => some .str
    | some .bool => some .bool
    | some (.slice e) => (match tyOf P n e with | some u => if szT u = P.cellsOf e ∧ 0 < P.cellsOf e ∧ 0 < P.bytesOf e then some (.sl u) else none | none => none)
    | some (.struct fs) => (match tyFields P (tyOf P n) 0 fs.toList with | some (ts, m) => if m = P.cellsOf t then some (.st ts) else none | none => none)
    | _ => none
def tysOf (P : Program) (n : Nat) : List TypeId → Option Tys
  | [] => some .nil
  | t :: ts => match tyOf P n t, tysOf P n ts with | some u, some us => some (.cons u us) | _, _ => none

/-- What a count of values and letters does. -/
structure Bulk {H : Type} (bulk : DataW H → Nat) (all : List (DataW H) → Nat) : Prop where
  int : ∀ k n, 1 ≤ bulk (.lit (.int k n))
  bool : ∀ b, 1 ≤ bulk (.lit (.bool b))
  str : ∀ s, s.length + 1 ≤ bulk (.lit (.string s))
  nil : 1 ≤ bulk .nil
  slice : ∀ es sp, all es + 1 ≤ bulk (.slice es sp)
  agg : ∀ ps, all ps + 1 ≤ bulk (.agg ps)
  none : all [] = 0
  cons : ∀ d r, all (d :: r) = bulk d + all r

section
variable {H : Type} {enc : TypeId × Value → H} {P : Program} {w : World} {base : Nat} {spare : Nat → Bool} {held : Bool} {bulk : DataW H → Nat} {all : List (DataW H) → Nat}

abbrev E0 : Env := fun _ => none
abbrev fz0 (w : World) : Nat → Prop := fun b => b < w.heap.size

/-- What is read of cells of a type. -/
def Reads1 (w : World) (bulk : DataW H → Nat) (t : Ty) (cs : List Value) (d : DataW H) : Prop :=
  ∃ x : T t, RelL E0 (fz0 w) w (encT t x) cs ∧ okT t x ∧ wtT t x ≤ bulk d ∧ ∀ c ∈ cs, c.oneCell' = true

theorem mapM_zip {α β : Type} {g : α → Option β} : ∀ {l : List α} {ys : List β}, l.mapM g = some ys → ∀ (i : Nat) a, l[i]? = some a → ∃ b, g a = some b ∧ ys[i]? = some b
  | [], _, _, i, a, ha => by simp at ha
  | x :: l, ys, h, i, a, ha => by
    cases hx : g x with
    | none => simp [hx] at h
    | some b =>
      cases hl : l.mapM g with
      | none => simp [hx, hl] at h
      | some bs =>
        simp [hx, hl] at h
        subst h
        cases i with
        | zero => simp at ha; subst ha; exact ⟨b, hx, rfl⟩
        | succ i => simp at ha; simpa using mapM_zip hl i a ha

/-- Elements that lie one behind the other. -/
theorem reads_list (hb : Bulk bulk all) {e : Ty} {k : Nat} {b off : Nat} : ∀ (ds : List (DataW H)) (i0 : Nat), (∀ (i : Nat) d, ds[i]? = some d → ∃ cs : List Value, cs.length = k ∧ (∀ j, j < k → w.cell? ⟨b, off + (i0 + i) * k + j, none⟩ = cs[j]?) ∧ Reads1 w bulk e cs d) →
    ∃ l : List (T e), l.length = ds.length ∧ RelC E0 (fz0 w) w b (off + i0 * k) (l.flatMap (encT e)) ∧ (∀ x ∈ l, okT e x) ∧ l.foldr (fun x n => wtT e x + n) 1 ≤ all ds + 1
  | [], i0, _ => ⟨[], rfl, by simp [RelC], by simp, by simp⟩
  | d :: ds, i0, h => by
    obtain ⟨cs, h1, h2, x, h3, h4, h5, h6⟩ := h 0 d rfl
    obtain ⟨l, g1, g2, g3, g4⟩ := reads_list hb ds (i0 + 1) fun i d' hd => by
      have := h (i + 1) d' (by simpa using hd)
      rwa [show i0 + (i + 1) = i0 + 1 + i by omega] at this
    have hlen := h3.length
    refine ⟨x :: l, by simp [g1], ?_, ?_, ?_⟩
    · rw [List.flatMap_cons]
      refine RelC.append (RelC.mk fun i a ha => ?_) ?_
      · obtain ⟨v, q1, q2⟩ := h3.get ha
        have hi : i < k := by
          have := (List.getElem?_eq_some_iff.1 q1).1; omega
        exact ⟨v, by have := h2 i hi; rw [Nat.add_zero] at this; rw [this, q1], h6 v (List.mem_of_getElem? q1), q2⟩
      · rw [show off + i0 * k + (encT e x).length = off + (i0 + 1) * k by rw [← hlen, h1, Nat.add_mul]; omega]
        exact g2
    · intro y hy
      rcases List.mem_cons.1 hy with rfl | hy
      · exact h4
      · exact g3 y hy
    · rw [hb.cons]
      simp only [List.foldr_cons]
      omega

theorem reads_fields {n : Nat} (hb : Bulk bulk all) {go : TypeId → Option Ty} (ih : ∀ (t : TypeId) (u : Ty) (cs : List Value) (d : DataW H) (ps : List MemPlace), go t = some u → (∀ x ∈ d.weights P t, x ≤ reachBytes) → DataW.trod enc P w 0 spare held n t cs = some (d, ps) → Reads1 w bulk u cs d) (cs : List Value) :
    ∀ (fs : List Field) (off : Nat) (ts : Tys) (m : Nat) (xs : List (DataW H × List MemPlace)), tyFields P go off fs = some (ts, m) → m ≤ cs.length → fs.mapM (fun f => DataW.trod enc P w 0 spare held n f.type ((cs.drop f.offset).take (P.cellsOf f.type))) = some xs → (∀ x ∈ DataW.weightsEach P (fs.map (·.type)) (xs.map (·.1)), x ≤ reachBytes) →
    off ≤ m ∧ ∃ x : Ts ts, RelL E0 (fz0 w) w (encTs ts x) ((cs.drop off).take (m - off)) ∧ okTs ts x ∧ wtTs ts x ≤ all (xs.map (·.1)) ∧ ∀ c ∈ (cs.drop off).take (m - off), c.oneCell' = true
  | [], off, ts, m, xs, hc, hm, hx, hR => by
    simp only [tyFields, Option.some.injEq, Prod.mk.injEq] at hc
    obtain ⟨rfl, rfl⟩ := hc
    exact ⟨Nat.le_refl _, (), by simp [encTs, RelL], by simp [okTs], by simp [wtTs], by simp⟩
  | f :: fs, off, ts, m, xs, hc, hm, hx, hR => by
    unfold tyFields at hc
    split at hc
    · rename_i ho
      split at hc
      · rename_i t ht
        split at hc
        · rename_i hsz
          split at hc
          · rename_i ts' m' hr
            cases hc
            rw [List.mapM_cons] at hx
            cases hq : DataW.trod enc P w 0 spare held n f.type ((cs.drop f.offset).take (P.cellsOf f.type)) with
            | none => simp [hq] at hx
            | some y =>
              cases hq2 : fs.mapM (fun f => DataW.trod enc P w 0 spare held n f.type ((cs.drop f.offset).take (P.cellsOf f.type))) with
              | none => simp [hq, hq2] at hx
              | some ys =>
                simp [hq, hq2] at hx
                subst hx
                simp only [List.map_cons, DataW.weightsEach, List.mem_append] at hR
                obtain ⟨i1, x2, r2, o2, w2, c2⟩ := reads_fields hb ih cs fs (off + P.cellsOf f.type) ts' m ys hr hm hq2 (fun x hx => hR x (.inr hx))
                obtain ⟨x1, r1, o1, w1, c1⟩ := ih f.type t _ y.1 y.2 ht (fun x hx => hR x (.inl hx)) hq
                rw [ho] at r1 c1
                have split_ : (cs.drop off).take (m - off) = (cs.drop off).take (P.cellsOf f.type) ++ (cs.drop (off + P.cellsOf f.type)).take (m - (off + P.cellsOf f.type)) := by
                  rw [show m - off = P.cellsOf f.type + (m - (off + P.cellsOf f.type)) by omega, List.take_add, List.drop_drop]
                refine ⟨by omega, ?_⟩
                rw [split_]
                have hone : ∀ c ∈ (cs.drop off).take (P.cellsOf f.type) ++ (cs.drop (off + P.cellsOf f.type)).take (m - (off + P.cellsOf f.type)), c.oneCell' = true := fun c hc' => by
                  rcases List.mem_append.1 hc' with h | h
                  · exact c1 c h
                  · exact c2 c h
                cases ts' with
                | nil =>
                  simp only [encTs, RelL] at r2
                  rw [r2, List.append_nil]
                  exact ⟨x1, r1, o1, by simp only [List.map_cons, hb.cons]; exact Nat.le_trans w1 (Nat.le_add_right _ _), by rw [r2, List.append_nil] at hone; exact hone⟩
                | cons u us =>
                  exact ⟨(x1, x2), r1.append r2, ⟨o1, o2⟩, by simp only [List.map_cons, hb.cons]; exact Nat.add_le_add w1 w2, hone⟩
          · cases hc
        · cases hc
      · cases hc
    · cases hc

theorem reads_cells (hb : Bulk bulk all) : ∀ (fuel n : Nat) (t : TypeId) (u : Ty) (cs : List Value) (d : DataW H) (ps : List MemPlace), tyOf P n t = some u → (∀ x ∈ d.weights P t, x ≤ reachBytes) → DataW.trod enc P w 0 spare held fuel t cs = some (d, ps) → Reads1 w bulk u cs d := by
  intro fuel
  induction fuel with
  | zero => intro n t u cs d ps _ _ h; simp [DataW.trod] at h
  | succ fuel ih =>
    intro n t u cs d ps hu hR h
    cases n with
    | zero => simp [tyOf] at hu
    | succ n =>
      unfold tyOf at hu
      split at hu
      · rename_i k hk
        cases hu
        obtain ⟨x, rfl, h2, h3⟩ := DataW.trod_int hk h
        simp only [Prod.mk.injEq] at h2
        simp only [Lit.wf, Bool.and_eq_true, decide_eq_true_eq] at h3
        exact ⟨x, by simp [encT, RelL, Rel], h3, by rw [h2.1]; exact hb.int _ _, by simp [Value.oneCell']⟩
      · rename_i hk
        cases hu
        obtain ⟨s, rfl, h2, h3⟩ := DataW.trod_string hk h
        simp only [Prod.mk.injEq] at h2
        refine ⟨s.data.toList, by simp [encT, RelL, Rel], ?_, by rw [h2.1]; exact hb.str _, by simp [Value.oneCell']⟩
        show List.length s.data.toList ≤ 140737488351232
        have := hR s.data.toList.length (by rw [h2.1]; simp [DataW.weights])
        exact this
      · rename_i hk
        cases hu
        obtain ⟨x, rfl, h2⟩ := DataW.trod_bool hk h
        simp only [Prod.mk.injEq] at h2
        exact ⟨x, by simp [encT, RelL, Rel], trivial, by rw [h2.1]; exact hb.bool _, by simp [Value.oneCell']⟩
      · rename_i e hk
        split at hu
        · rename_i u' hu'
          split at hu
          · rename_i hsz
            cases hu
            unfold DataW.trod at h
            rw [hk] at h
            split at h <;> try (cases ‹some (TypeDesc.slice e) = some _›; done)
            all_goals try cases ‹some (TypeDesc.slice e) = some _›
            · cases h
              exact ⟨[], by simp [encT, RelL, Rel], ⟨Nat.zero_le _, fun x hx => nomatch hx⟩, hb.nil, by simp [Value.oneCell']⟩
            · rename_i a len cap
              dsimp only at h
              split at h
              · rename_i hcnd
                obtain ⟨_, hlc, hcap⟩ := hcnd
                obtain ⟨elems, hel, h⟩ := Option.bind_eq_some_iff.1 h
                obtain ⟨rest, hre, h⟩ := Option.map_eq_some_iff.1 h
                simp only [Prod.mk.injEq] at h
                obtain ⟨rfl, _⟩ := h
                have hlen : elems.length = len := by have := mapM_some_length hel; simpa using this
                have one : Value.oneCell' (.slice (some a) len cap) = true := by simp [Value.oneCell']
                have e1 := hb.slice (elems.map (·.1)) (rest.map (·.1))
                by_cases h0 : len = 0
                · subst h0
                  refine ⟨[], ?_, ⟨Nat.zero_le _, fun x hx => nomatch hx⟩, ?_, by simpa using one⟩
                  · simp [encT, RelL, Rel]
                  · simp only [wtT, List.foldr_nil]; omega
                have hwt : (elems.length + rest.length) * P.bytesOf e ≤ reachBytes ∧ ∀ y ∈ elems, ∀ x ∈ y.1.weights P e, x ≤ reachBytes := by
                  have all : ∀ {l : List (DataW H × List MemPlace)} {y : DataW H × List MemPlace}, y ∈ l → ∀ x ∈ y.1.weights P e, x ∈ DataW.weightsAll P e (l.map (·.1)) := by
                    intro l
                    induction l with
                    | nil => intro y hy; cases hy
                    | cons z l ih' =>
                      intro y hy x hx
                      simp only [List.map_cons, DataW.weightsAll, List.mem_append]
                      rcases List.mem_cons.1 hy with rfl | hy
                      · exact .inl hx
                      · exact .inr (ih' hy x hx)
                  refine ⟨hR _ (by simp [DataW.weights, hk]), fun y hy x hx => hR x ?_⟩
                  simp only [DataW.weights, hk, List.mem_cons, List.mem_append]
                  exact .inr (.inl (all hy x hx))
                have key : ∀ (i : Nat) d', (elems.map (·.1))[i]? = some d' → ∃ cs : List Value, cs.length = P.cellsOf e ∧ (∀ j, j < P.cellsOf e → w.cell? ((a.add (i * P.cellsOf e)).add j) = cs[j]?) ∧ Reads1 w bulk u' cs d' := fun i d' hd => by
                  rw [List.getElem?_map] at hd
                  cases hq : elems[i]? with
                  | none => simp [hq] at hd
                  | some y =>
                    simp [hq] at hd
                    subst hd
                    have hi : i < len := by have := (List.getElem?_eq_some_iff.1 hq).1; omega
                    obtain ⟨y', q1, q2⟩ := mapM_zip hel i i (by simp [hi])
                    rw [hq] at q2; cases q2
                    cases hcs : w.cells? 0 (a.add (i * P.cellsOf e)) (P.cellsOf e) with
                    | none => simp [hcs] at q1
                    | some cs =>
                      simp only [hcs, Option.bind_some] at q1
                      obtain ⟨_, q3, q4⟩ := World.cells?_some hcs
                      exact ⟨cs, q3, q4, ih n e u' cs y.1 y.2 hu' (hwt.2 y (List.mem_of_getElem? hq)) q1⟩
                obtain ⟨b, off, spot⟩ := a
                have hsp : spot = none ∧ b < w.heap.size := by
                  obtain ⟨cs, k1, k2, _⟩ := key 0 _ (List.getElem?_eq_getElem (by simp; omega))
                  have k3 := k2 0 hsz.2.1
                  rw [List.getElem?_eq_getElem (by omega)] at k3
                  have k4 : spot = none := by simpa [Addr.add] using World.cell?_spot k3
                  refine ⟨k4, ?_⟩
                  rcases Nat.lt_or_ge b w.heap.size with hl | hl
                  · exact hl
                  · simp [World.cell?, Addr.add, Array.getElem?_eq_none hl] at k3
                obtain ⟨rfl, hbl⟩ := hsp
                obtain ⟨l, g1, g2, g3, g4⟩ := reads_list (w := w) hb (e := u') (k := P.cellsOf e) (b := b) (off := off) (elems.map (·.1)) 0 fun i d' hd => by
                  obtain ⟨cs, k1, k2, k3⟩ := key i d' hd
                  refine ⟨cs, k1, fun j hj => ?_, k3⟩
                  rw [← k2 j hj, Nat.zero_add]
                  unfold Addr.add
                  split <;> split <;> simp_all
                rw [List.length_map, hlen] at g1
                refine ⟨l, ?_, ⟨?_, fun x hx => g3 x hx⟩, ?_, by simpa using one⟩
                · simp only [encT, RelL]
                  refine ⟨_, _, rfl, ?_, rfl⟩
                  simp only [Rel]
                  exact .inr ⟨b, off, cap, hbl, by rw [g1]; exact hlc, by rw [g1], by simpa using g2⟩
                · show List.length l ≤ 140737488351232
                  rw [g1, ← hlen]
                  have q1 := hwt.1
                  have q2 : (elems.length + rest.length) * 1 ≤ (elems.length + rest.length) * P.bytesOf e := Nat.mul_le_mul_left _ hsz.2.2
                  have q3 : reachBytes = 140737488351232 := rfl
                  omega
                · simp only [wtT]; omega
              · cases h
            all_goals (first | cases h | skip)
          · cases hu
        · cases hu
      · rename_i fs hk
        split at hu
        · rename_i ts m hf
          split at hu
          · rename_i hm
            cases hu
            simp only [DataW.trod, hk] at h
            split at h
            · rename_i hlen
              obtain ⟨xs, hx, h⟩ := Option.map_eq_some_iff.1 h
              simp only [Prod.mk.injEq] at h
              obtain ⟨rfl, _⟩ := h
              obtain ⟨_, x, r, o, wt, c1⟩ := reads_fields hb (fun t u cs d ps => ih n t u cs d ps) cs fs.toList 0 ts m xs hf (by omega) hx (by simpa [DataW.weights, hk] using hR)
              rw [List.drop_zero, Nat.sub_zero, List.take_of_length_le (by omega)] at r c1
              exact ⟨x, r, o, Nat.le_trans (Nat.add_le_add_right wt 1) (hb.agg _), c1⟩
            · cases h
          · cases hu
        · cases hu
      · cases hu
end
end Go.Vc
