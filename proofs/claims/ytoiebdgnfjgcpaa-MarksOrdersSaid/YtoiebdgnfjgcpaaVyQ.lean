/-
  The function literal that reflectlite.Swapper hands back, as a function that writes its row; sort.SliceStable over the contract of sort.stable_func.
-/
import Derived.Test.YtoiebdgnfjgcpaaVyP
import Derived.Shelf.GgSortMore.Stable
import Derived.Lib.ReflectliteSwap
set_option linter.unusedVariables false
set_option linter.unusedSimpArgs false
namespace Go.Vc
open Go.Lib Go.Extern Go.Extern.Rtype Go.Shelf Go.RowKit Go.Sort Go.Proofs
variable {P : Program}

/-! ### The swap -/
theorem st_var {e : TypeId} {ie : TypeInfo} (hie : P.info? e = some ie) {a : Addr} {v : Value} {V : List Value} (hV : v.cells = V.toArray) (hl : V.length = ie.size) {w w1 : World} (h : (storeCells a V 0).run P w = .ok () w1) : (storeVar e a v).run P w = .ok () w1 := by
  simp [storeVar, hV, sizeOf, rl_info e ie hie, hl, h, Result.andThen]
theorem swap_run {g : Bool} {e : TypeId} {ie : TypeInfo} (hie : P.info? e = some ie) {blk off n c i j : Nat} (hi : i < n) (hj : j < n) {x y : Value} {X Y : List Value} {w w1 w2 : World}
    (lx : (loadVar e ⟨blk, off + i * ie.size, none⟩).run P w = .ok x w) (ly : (loadVar e ⟨blk, off + j * ie.size, none⟩).run P w = .ok y w) (cx : x.cells = X.toArray) (cy : y.cells = Y.toArray) (zx : X.length = ie.size) (zy : Y.length = ie.size)
    (s1 : (storeCells ⟨blk, off + i * ie.size, none⟩ Y 0).run P w = .ok () w1) (s2 : (storeCells ⟨blk, off + j * ie.size, none⟩ X 0).run P w1 = .ok () w2) :
    (ReflectliteSwapper.swap g #[.int .i64 i, .int .i64 j, .slice (some ⟨blk, off, none⟩) n c, typeHandle P e]).run P w = .ok (.tuple #[]) w2 := by
  have t1 := st_var hie cy zy s1
  have t2 := st_var hie cx zx s2
  have i0 : ¬ ((i : Int) < 0) := by omega
  have i1 : ¬ ((i : Int) ≥ n) := by omega
  have j0 : ¬ ((j : Int) < 0) := by omega
  have j1 : ¬ ((j : Int) ≥ n) := by omega
  rw [rl_swap]
  cases g <;> simp [i0, i1, j0, j1, ofHandle, handleType, typeHandle, ReflectliteSwapper.exchange, sizeOf, rl_info e ie hie, Addr.add_lit, lx, ly, t1, t2, Result.andThen]

/-- What is asked of the element's type. -/
structure SwTy (P : Program) (e k : Nat) (ag : Bool) : Prop where
  info : ∃ ie, P.info? e = some ie ∧ ie.size = k
  agg : ∀ w, (isAgg e).run P w = .ok ag w
  one : ag = false → k = 1

theorem ld_var {e k : Nat} {ag : Bool} (h : SwTy P e k ag) {b o : Nat} {V : List Value} (hl : V.length = k) (h1 : ∀ v ∈ V, v.oneCell' = true) {w : World} (hc : ∀ (j : Nat) v, V[j]? = some v → w.cell? ⟨b, o + j, none⟩ = some v) :
    ∃ x, (loadVar e ⟨b, o, none⟩).run P w = .ok x w ∧ x.cells = V.toArray := by
  obtain ⟨ie, hie, hs⟩ := h.info
  cases ag with
  | true => exact ⟨_, rl_loadVar_cells e ie hie h.agg b o V (by omega) w hc, rfl⟩
  | false =>
    have := h.one rfl
    match V, hl with
    | [v], _ =>
      refine ⟨v, ?_, cells_one (h1 v (by simp))⟩
      have := hc 0 v rfl
      rw [Nat.add_zero] at this
      simp [loadVar, h.agg, this]
    | [], hl => simp at hl; omega
    | _ :: _ :: _, hl => simp at hl; omega

/-- A type's descriptor as a value. -/
abbrev tyH (gs e : Nat) : Value := .pointer (some ⟨gs, e, none⟩)
abbrev isTyH (gs e : Nat) (v : Value) : Bool := match v with
  | .pointer (some ⟨b, o, none⟩) => Nat.beq b gs && Nat.beq o e
  | _ => false
theorem isTyH_eq {gs e : Nat} {v : Value} (h : isTyH gs e v = true) : v = tyH gs e := by
  unfold isTyH at h
  split at h
  · simp only [Bool.and_eq_true] at h
    rw [beq_eq h.1, beq_eq h.2]
  · cases h
abbrev swTs : Tys := .cons (.int .i64) (.cons (.int .i64) .nil)
def swDec (gs e : Nat) : List TV → Option (Ts .nil × Ts swTs)
  | [.int .i64 i, .int .i64 j, .slf l, .cst v] => (match Nat.beq l 0, isTyH gs e v with | true, true => some ((), ((i, j) : Int × Int)) | _, _ => none)
  | _ => none
theorem swDec_ok (gs e : Nat) : ∀ xs k (a : Int × Int), swDec gs e xs = some (k, a) → xs = [.int .i64 a.1, .int .i64 a.2, .slf 0, .cst (tyH gs e)] := fun xs k a h => by
  unfold swDec at h
  split at h
  · split at h
    · rename_i h1 h2
      cases h
      rw [beq_eq h1, isTyH_eq h2]
    · cases h
  · cases h
def swFind : List TV → Option Nat
  | [_, _, .slf l, _] => some l
  | _ => none
/-- Two elements change places. -/
noncomputable def sw_cz (et : Ty) (gs e : Nat) : Cz :=
  ⟨et, .nil, swTs, fun _ (a : Int × Int) => [.int .i64 a.1, .int .i64 a.2, .slf 0, .cst (tyH gs e)], swDec gs e, swFind,
    fun _ ls (a : Int × Int) => 0 ≤ a.1 ∧ a.1 < ls.length ∧ 0 ≤ a.2 ∧ a.2 < ls.length, fun _ ls (a : Int × Int) => (ls.set a.1.toNat (@gt _ ⟨zT et⟩ ls a.2)).set a.2.toNat (@gt _ ⟨zT et⟩ ls a.1)⟩

theorem sw_acalls {f gs e : Nat} {et : Ty} {ag g : Bool} (hgs : P.globals.size = gs) (ht : SwTy P e (szT et) ag) (hz : 0 < szT et)
    (hx : ∀ args W, (callFunc f args).run P W = ((ReflectliteSwapper.swap g args).run P W).andThen fun v w' => .ok (.value v) w') (ls : List (Go.Vc.T et)) (v i j : Nat) (hi : i < ls.length) (hj : j < ls.length) :
    ACalls P f [.int .i64 (i : Int), .int .i64 (j : Int), .sl 0 v 0 ls.length, .cst (tyH gs e)] (stZ (some v) et ls) fun r S' => r = .tup [] ∧ S' = stZ (some v) et ((ls.set i ls[j]).set j ls[i]) := by
  refine ⟨fun E fz w vals st hrel => .inr ?_⟩
  simp only [RelL, Rel] at hrel
  obtain ⟨_, _, rfl, rfl, _, _, rfl, rfl, u, _, rfl, r1, _, _, rfl, rfl, rfl⟩ := hrel
  rcases r1 with ⟨h0, _⟩ | ⟨b, base, cap, kk, c, e1, e2, e3, rfl⟩
  · omega
  have hS : (stZ (some v) et ls)[0]? = some (.row v (szT et) (ls.flatMap (encT et))) := rfl
  rcases st.ok 0 _ hS with ⟨g1, g2⟩ | ⟨b', base', cap', arr, TT, lo, hi', g1, g2, g3, g4, g5, g6, g7⟩
  · rw [e1] at g1; cases g1
  rw [e1] at g1; cases g1
  obtain ⟨ie, hie, hs⟩ := ht.info
  -- the two elements' cells
  have cells : ∀ q (hq : q < ls.length), ∃ V : List Value, RelL E fz w (encT et ls[q]) V ∧ (∀ v ∈ V, v.oneCell' = true) ∧ V.length = szT et ∧ ∃ x, (loadVar e ⟨b, base + 0 + q * szT et, none⟩).run P w = .ok x w ∧ x.cells = V.toArray := fun q hq => by
    have hr : RelC E fz w b (base + q * szT et) (encT et ls[q]) := by
      have := (g6.drop (q * szT et)).take (szT et)
      rwa [← (takeN_eq (take_flat0 (encT_length et) hq)).1] at this
    obtain ⟨V, h1, h2, h3⟩ := hr.read
    have hl : V.length = szT et := by rw [← encT_length et ls[q]]; exact h1.length
    exact ⟨V, h1, h2, hl, ld_var ht hl h2 fun j v hv => by rw [Nat.add_zero]; exact h3 j v hv⟩
  obtain ⟨X, x1, x2, x3, x, x4, x5⟩ := cells i hi
  obtain ⟨Y, y1, y2, y3, y, y4, y5⟩ := cells j hj
  have hpos : ∀ q : Go.Vc.T et, encT et q ≠ [] := fun q h => by have := encT_length et q; rw [h] at this; simp at this; omega
  have fl : (ls.flatMap (encT et)).length = ls.length * szT et := flatMap_length (encT_length et) ls
  have le : ∀ q, q < ls.length → q * szT et + szT et ≤ ls.length * szT et := fun q hq => by
    have : (q + 1) * szT et ≤ ls.length * szT et := Nat.mul_le_mul_right _ hq
    rw [Nat.add_mul, Nat.one_mul] at this
    exact this
  obtain ⟨w1, s1, st1, ex1⟩ := put_cells (P := P) st (l := 0) (off := i * szT et) hS (ys := encT et ls[j]) (us := Y) (by rw [fl, encT_length]; exact le i hi) (hpos _) y1 y2 e1
  have q1 : setCells (ls.flatMap (encT et)) (i * szT et) (encT et ls[j]) = (ls.set i ls[j]).flatMap (encT et) := by
    have := setCells_flat (encT_length et) ls i hi 0 (encT et ls[j]) ls[j] (by rw [encT_length]; omega) (setCells_all (by rw [encT_length, encT_length]))
    rwa [Nat.add_zero] at this
  have hS1 : (stZ (some v) et ls).set 0 (.row v (szT et) (setCells (ls.flatMap (encT et)) (i * szT et) (encT et ls[j]))) = stZ (some v) et (ls.set i ls[j]) := by rw [q1]; rfl
  rw [hS1] at st1 ex1
  have x1' : RelL E fz w1 (encT et ls[i]) X := x1.mono (fun _ _ h => h) (fun _ h => h) (fun b' hb' => ex1.keep b' (st.fzlt b' hb') fun ho => (st.own_lt ho.choose_spec).2 hb') _
  have hj' : j < (ls.set i ls[j]).length := by simpa using hj
  have fl1 : ((ls.set i ls[j]).flatMap (encT et)).length = ls.length * szT et := by rw [flatMap_length (encT_length et), List.length_set]
  obtain ⟨w2, s2, st2, ex2⟩ := put_cells (P := P) st1 (l := 0) (off := j * szT et) (show (stZ (some v) et (ls.set i ls[j]))[0]? = _ from rfl) (ys := encT et ls[i]) (us := X) (by rw [fl1, encT_length]; exact le j hj) (hpos _) x1' x2 e1
  have q2 : setCells ((ls.set i ls[j]).flatMap (encT et)) (j * szT et) (encT et ls[i]) = ((ls.set i ls[j]).set j ls[i]).flatMap (encT et) := by
    have := setCells_flat (encT_length et) (ls.set i ls[j]) j hj' 0 (encT et ls[i]) ls[i] (by rw [encT_length]; omega) (setCells_all (by rw [encT_length, encT_length]))
    rwa [Nat.add_zero] at this
  have hS2 : (stZ (some v) et (ls.set i ls[j])).set 0 (.row v (szT et) (setCells ((ls.set i ls[j]).flatMap (encT et)) (j * szT et) (encT et ls[i]))) = stZ (some v) et ((ls.set i ls[j]).set j ls[i]) := by rw [q2]; rfl
  rw [hS2] at st2 ex2
  have run := swap_run (P := P) (g := g) hie (blk := b) (off := base + 0) (n := ls.length) (c := c) hi hj (x := x) (y := y) (X := X) (Y := Y) (w := w) (w1 := w1) (w2 := w2)
    (by rw [hs]; exact x4) (by rw [hs]; exact y4) x5 y5 (by rw [hs]; exact x3) (by rw [hs]; exact y3) (by rw [hs]; simpa using s1) (by rw [hs]; simpa using s2)
  have run' : (ReflectliteSwapper.swap g [Value.int .i64 (i : Int), .int .i64 (j : Int), .slice (some ⟨b, base + 0, none⟩) ls.length c, tyH gs e].toArray).run P w = .ok (.tuple #[]) w2 := by
    rw [← hgs]; exact run
  exact ⟨.tuple #[], w2, by rw [hx, run']; rfl, .tup [], _, .tuple #[], E, fz, rfl, ex1.trans ex2, st2, by simp only [Rel, RelL]; exact ⟨[], rfl, rfl⟩, rfl, rfl⟩

theorem sw_con {f gs e : Nat} {et : Ty} {ag g : Bool} (hgs : P.globals.size = gs) (hfl : flatT et = true) (ht : SwTy P e (szT et) ag) (hz : 0 < szT et)
    (hx : ∀ args W, (callFunc f args).run P W = ((ReflectliteSwapper.swap g args).run P W).andThen fun v w' => .ok (.value v) w') : ConZ P f (sw_cz et gs e) := by
  refine ⟨trivial, hfl, swDec_ok gs e, ?_⟩
  show ∀ (k : Ts .nil) (ls : List (Go.Vc.T et)) (a : Int × Int), 0 ≤ a.1 ∧ a.1 < ls.length ∧ 0 ≤ a.2 ∧ a.2 < ls.length → ∀ ver : Option Nat, (ver = none → ls = []) → ∀ ys, SimL (hdZ ver et ls.length) [.int .i64 a.1, .int .i64 a.2, .slf 0, .cst (tyH gs e)] ys →
    ACalls P f ys (stZ ver et ls) fun r S' => r = .tup [] ∧ ((ls.set a.1.toNat (@gt _ ⟨zT et⟩ ls a.2)).set a.2.toNat (@gt _ ⟨zT et⟩ ls a.1)).length = ls.length ∧ S' = stZ ver et ((ls.set a.1.toNat (@gt _ ⟨zT et⟩ ls a.2)).set a.2.toNat (@gt _ ⟨zT et⟩ ls a.1))
  rintro - ls ⟨a1, a2⟩ ⟨i0, i1, j0, j1⟩ ver hv ys hy
  simp only at i0 i1 j0 j1 hy ⊢
  cases ver with
  | none => rw [hv rfl] at i1; simp at i1; omega
  | some v =>
    simp only [SimL, SimV] at hy
    obtain ⟨_, _, rfl, rfl, _, _, rfl, rfl, _, _, rfl, ⟨hd, e1, rfl⟩, _, _, rfl, rfl, rfl⟩ := hy
    simp only [hdZ] at e1
    cases e1
    obtain ⟨i, rfl⟩ := Int.eq_ofNat_of_zero_le i0
    obtain ⟨j, rfl⟩ := Int.eq_ofNat_of_zero_le j0
    have hi : i < ls.length := by omega
    have hj : j < ls.length := by omega
    have gti : ∀ q (hq : q < ls.length), @gt _ ⟨zT et⟩ ls (q : Int) = ls[q] := fun q hq => by
      simp [gt, List.getD_eq_getElem?_getD, List.getElem?_eq_getElem hq]
    refine ACallsMono (sw_acalls hgs ht hz hx ls v i j hi hj) fun r S' ⟨e1, e2⟩ => ⟨e1, by simp, ?_⟩
    rw [e2, gti i hi, gti j hj]
    rfl

/-! ### sort.SliceStable -/
theorem grow_st {E : Env} {fz : Nat → Prop} {S : Store} {w : World} (st : St E fz S w) (os : Array Obj) : St E fz S (grow w os) ∧ Ext E fz S w E fz S (grow w os) := by
  have hh : ∀ b : Nat, b < w.heap.size → (grow w os).heap[b]? = w.heap[b]? := fun b hb => by
    show (w.heap ++ os)[b]? = _
    rw [Array.getElem?_append_left hb]
  have hs : w.heap.size ≤ (grow w os).heap.size := by show w.heap.size ≤ (w.heap ++ os).size; simp
  exact ⟨⟨fun l o hl => (st.ok l o hl).mono (fun _ _ h => h) (fun _ h => h) (fun b hb => hh b (st.fzlt b hb)) fun b hb => ⟨hh b (st.own_lt ⟨o, hl, hb⟩).1, (st.own_lt ⟨o, hl, hb⟩).2⟩, st.sep, fun b hb => Nat.lt_of_lt_of_le (st.fzlt b hb) hs, st.fresh⟩,
    ⟨fun _ _ h => h, fun _ h => h, fun _ h => .inl h, fun b hb _ => hh b hb, fun _ h => .inl h, hs, rfl, rfl, (Tp.of rfl (Nat.le_refl _))⟩⟩

/-- What is asked of the program: the library's text, the slice's type, its element's, the swapper's literals. -/
structure SlsOk (P : Program) (f fs sw t e : Nat) : Prop where
  lay : ∃ ρ, LaysGt.n8 P ρ ∧ ρ.f 8 = f ∧ ρ.f 15 = fs
  able : callable P f = true
  ables : callable P fs = true
  type : ∃ i ie ke, P.info? t = some i ∧ i.desc = .slice e ∧ P.packed t = false ∧ P.info? e = some ie ∧ (∀ w, (Extern.Rtype.kind e).run P w = .ok ke w) ∧
    (∀ n, 2 ≤ n → P.funcs.findIdx? (·.name == "internal/reflectlite" ++ ".Swapper$" ++ toString (swapperK n ie ke)) = some sw) ∧
    ∀ n, n ≤ 1 → ∃ f0, P.funcs.findIdx? (·.name == "internal/reflectlite" ++ ".Swapper$" ++ toString (swapperK n ie ke)) = some f0

theorem sls_tiny {f fs sw t e : Nat} (h : SlsOk P f fs sw t e) {S : Store} {g : Nat} {ycs : List AVal} {y : AVal} {n : Nat} (hn : n ≤ 1) (hy : y = .nils ∨ ∃ p v, y = .sl p v 0 n) :
    ACalls P f [.iface t y, .fn (.func g) [] ycs] S fun r S' => r = .tup [] ∧ S' = S := by
  obtain ⟨ρ, L, rfl, rfl⟩ := h.lay
  obtain ⟨i, ie, ke, h1, h2, h3, h4, h5, h6, h7⟩ := h.type
  refine ⟨fun E fz w vals st hrel => .inl ⟨h.able, ?_⟩⟩
  have hv : ∃ a m c us, m ≤ 1 ∧ vals = [.iface t (.slice a m c), .func (.func g) #[] us] := by
    rcases hy with rfl | ⟨p, v, rfl⟩
    · simp only [RelL, Rel] at hrel
      obtain ⟨_, _, rfl, ⟨u, rfl, rfl⟩, _, _, rfl, ⟨vs, us, rfl, rfl, _⟩, rfl⟩ := hrel
      exact ⟨_, 0, _, _, by omega, rfl⟩
    · simp only [RelL, Rel] at hrel
      obtain ⟨_, _, rfl, ⟨u, rfl, r1⟩, _, _, rfl, ⟨vs, us, rfl, rfl, _⟩, rfl⟩ := hrel
      rcases r1 with ⟨h0, a, rfl⟩ | ⟨b, base, cap, kk, c, e1, e2, e3, rfl⟩
      · exact ⟨_, 0, _, _, by omega, rfl⟩
      · exact ⟨_, n, _, _, hn, rfl⟩
  obtain ⟨a, m, c, us, hm, rfl⟩ := hv
  obtain ⟨f0, hf0⟩ := h7 m hm
  refine (Go.Proofs.Any.sort_SliceStable_tiny L t e i ie h1 h2 h3 h4 ke h5 a m c hm f0 hf0 (.func g) #[] us w).mono ?_
  rintro e' w' ⟨rfl, os, rfl⟩
  obtain ⟨g1, g2⟩ := grow_st st os
  exact ⟨.tup [], S, .tuple #[], E, fz, rfl, g2, g1, by simp only [Rel, RelL]; exact ⟨[], rfl, rfl⟩, rfl, rfl⟩

theorem sls_more {f fs sw t e : Nat} (h : SlsOk P f fs sw t e) {S : Store} {g : Nat} {ycs : List AVal} {p v n : Nat} (hn : 2 ≤ n) (hn2 : n < 4611686018427387904) {R : AVal → Store → Prop}
    (hA : ACalls P fs [.agg [.fn (.func g) [] ycs, .fn (.func sw) [] [.sl p v 0 n, .cst (tyH P.globals.size e)]], .int .i64 (n : Int)] S fun r S' => r = .tup [] ∧ R r S') :
    ACalls P f [.iface t (.sl p v 0 n), .fn (.func g) [] ycs] S R := by
  obtain ⟨ρ, L, rfl, rfl⟩ := h.lay
  obtain ⟨i, ie, ke, h1, h2, h3, h4, h5, h6, h7⟩ := h.type
  refine ⟨fun E fz w vals st hrel => .inl ⟨h.able, ?_⟩⟩
  simp only [RelL, Rel] at hrel
  obtain ⟨_, _, rfl, ⟨u, rfl, r1⟩, _, _, rfl, ⟨vs, us, rfl, rfl, r2⟩, rfl⟩ := hrel
  have r1' := r1
  rcases r1 with ⟨h0, a, rfl⟩ | ⟨b, base, cap, kk, c, e1, e2, e3, rfl⟩
  · omega
  have hB : sliceBound P e ie ke (some ⟨b, base + 0, none⟩) n c = #[.slice (some ⟨b, base + 0, none⟩) n c, typeHandle P e] := by
    unfold sliceBound; rw [if_neg (swapperK_gt _ _ _ hn)]
  have hW : Go.Proofs.stableWorld P ρ t (some ⟨b, base + 0, none⟩) n c w = grow w #[.cells #[.slice (some ⟨b, base + 0, none⟩) n c] t, .cells #[.pointer (some ⟨P.globals.size, t, none⟩), .pointer (some ⟨w.heap.size, 0, none⟩), .int .u64 151] (ρ.t 36)] := by
    unfold Go.Proofs.stableWorld; rw [alloc_eq_grow, alloc_eq_grow, grow_grow]; rfl
  have key := Go.Proofs.Any.sort_SliceStable_of_stable L t e i ie h1 h2 h3 h4 ke h5 (some ⟨b, base + 0, none⟩) n c hn2 sw (h6 n hn) (.func g) #[] us.toArray w
    (fun w' => ∃ S' E' fz', Ext E fz S w E' fz' S' w' ∧ St E' fz' S' w' ∧ R (.tup []) S') (by
      rw [hB, hW]
      generalize (#[.cells #[.slice (some ⟨b, base + 0, none⟩) n c] t, .cells #[.pointer (some ⟨P.globals.size, t, none⟩), .pointer (some ⟨w.heap.size, 0, none⟩), .int .u64 151] (ρ.t 36)] : Array Obj) = os
      obtain ⟨g1, g2⟩ := grow_st st os
      have r2' : RelL E fz (grow w os) ycs us := RelL.mono (fun _ _ h => h) (fun _ h => h) (fun b' hb' => g2.keep b' (st.fzlt b' hb') fun ho => (st.own_lt ho.choose_spec).2 hb') _ r2
      have hc := (hA.out E fz (grow w os) [.agg #[.func (.func g) #[] us.toArray, .func (.func sw) #[] #[.slice (some ⟨b, base + 0, none⟩) n c, typeHandle P e]], .int .i64 (n : Int)] g1 (by
        simp only [RelL, Rel]
        refine ⟨_, _, rfl, ⟨[_, _], rfl, ⟨_, _, rfl, ⟨[], us, rfl, rfl, r2'⟩, _, _, rfl, ⟨[], [_, _], rfl, rfl, _, _, rfl, .inr ⟨b, base, cap, kk, c, e1, e2, e3, rfl⟩, _, _, rfl, rfl, rfl⟩, rfl⟩, ?_⟩, _, _, rfl, rfl, rfl⟩
        intro x hx
        simp only [List.mem_cons, List.not_mem_nil, or_false] at hx
        rcases hx with rfl | rfl <;> rfl)).calls h.ables
      refine hc.mono ?_
      rintro e' w' ⟨r, S', u, E', fz', rfl, hx, st', hr, rfl, hR⟩
      simp only [Rel, RelL] at hr
      obtain ⟨_, rfl, rfl⟩ := hr
      exact ⟨rfl, S', E', fz', g2.trans hx, st', hR⟩)
  refine key.mono ?_
  rintro e' w' ⟨rfl, S', E', fz', hx, st', hR⟩
  exact ⟨.tup [], S', .tuple #[], E', fz', rfl, hx, st', by simp only [Rel, RelL]; exact ⟨[], rfl, rfl⟩, hR⟩

/-- As a summary: stable_func's contract, at the row and the swapper's literal. -/
noncomputable def slsEv (c : Cz) (t sw gs e : Nat) (xs : List TV) (G : List RF) (TS : List TOb) : Option (List Prop × TV × List RF × List TOb) :=
  match xs with
  | [.ifs t0 l, .fn g cs] => (match Nat.beq t0 t, objAt TS l with
    | true, some (.row _ ls) => (match czEv c [.agg [.fn g cs, .fn sw [.slf l, .cst (tyH gs e)]], .int .i64 (ls.length : Int)] G TS with
      | some (ps, y, G', TS') => some (((ls.length : Int) ≤ 140737488351232) :: ps, y, G', TS')
      | none => none)
    | _, _ => none)
  | _ => none
noncomputable def slsFi (c : Cz) (t sw gs e : Nat) : Fi := ⟨2, .ret, [], .d, ⟨[], []⟩, some ⟨slsEv c t sw gs e⟩⟩

theorem czEv_inv {c : Cz} {xs : List TV} {G : List RF} {TS : List TOb} {ps : List Prop} {y : TV} {G' : List RF} {TS' : List TOb} (h : czEv c xs G TS = some (ps, y, G', TS')) :
    y = .tup [] ∧ G' = G ∧ ∃ l ls k a, c.find xs = some l ∧ objAt TS l = some (.row c.et ls) ∧ TS' = setOb TS l (.row c.et (c.fn k ls a)) := by
  unfold czEv at h
  split at h
  case h_2 => cases h
  rename_i l hl
  split at h
  case h_2 => cases h
  rename_i t ls xs' ho hv
  split at h
  case h_2 => cases h
  rename_i ht k a hte hd
  subst ht
  cases h
  exact ⟨rfl, rfl, l, ls, k, a, hl, ho, rfl⟩

theorem sls_sum {f fs sw t gs e : Nat} (h : SlsOk P f fs sw t e) (hgs : P.globals.size = gs) {c : Cz} (hc : ConZ P fs c) (hfind : ∀ l g cs n, c.find [.agg [.fn g cs, .fn sw [.slf l, .cst (tyH gs e)]], n] = some l) (htiny : ∀ k ls a, ls.length ≤ 1 → c.fn k ls a = ls) :
    SpOk P f ⟨slsEv c t sw gs e⟩ := by
  intro xs G TS ps y G' TS' hev hps H S AG ys st hG hs
  unfold slsEv at hev
  simp only at hev
  split at hev
  case h_2 => cases hev
  rename_i t0 l g cs
  split at hev
  case h_2 => cases hev
  rename_i et ls hb ho
  split at hev
  case h_2 => cases hev
  rename_i ps0 y0 G0 TS0 hcz
  cases hev
  have hlen := hps.cons.1
  have hps' := hps.cons.2
  have eb := beq_eq hb
  subst eb
  obtain ⟨loc, q1, q2⟩ := row_get st ho
  simp only [SimL, SimV] at hs
  obtain ⟨_, _, rfl, ⟨hd, k1, rfl⟩, _, _, rfl, ⟨ycs, rfl, hs2⟩, rfl⟩ := hs
  rw [q1] at k1; cases k1
  simp only
  have hsum := cz_sum hc hcz hps' st hG (ys := [.agg [.fn (.func g) [] ycs, .fn (.func sw) [] [slA loc 0 ls.length, .cst (tyH gs e)]], .int .i64 (ls.length : Int)]) (by
    simp only [SimL, SimV]
    exact ⟨_, _, rfl, ⟨_, rfl, _, _, rfl, ⟨_, rfl, hs2⟩, _, _, rfl, ⟨_, rfl, _, _, rfl, ⟨_, q1, rfl⟩, _, _, rfl, rfl, rfl⟩, rfl⟩, _, _, rfl, rfl, rfl⟩)
  obtain ⟨ey, eG, l1, ls1, k, a, z1, z2, z3⟩ := czEv_inv hcz
  rw [hfind] at z1
  cases z1
  have tiny : ls.length ≤ 1 → TS' = TS := fun hn => by
    rw [ho] at z2
    have z2 := Option.some.inj z2
    injection z2 with e1 e2
    subst e1
    have e2 := eq_of_heq e2
    subst e2
    rw [z3, htiny k _ a hn, setOb_eq]
    apply List.ext_getElem?
    intro i
    by_cases h : i = l
    · subst h; rw [List.getElem?_set_self (obj_lt ho)]; rw [objAt_eq] at ho; rw [ho]
    · rw [List.getElem?_set_ne (Ne.symm h)]
  have small : ls.length ≤ 1 → ∀ {yy : AVal}, (yy = .nils ∨ ∃ p v, yy = .sl p v 0 ls.length) → ACalls P f [.iface t0 yy, .fn (.func g) [] ycs] S fun r S' => ∃ H', St3 H' TS' S' ∧ SimG H' G' AG ∧ SimV H' y r := fun hn yy hy =>
    ACallsMono (sls_tiny h hn hy) fun r S' ⟨e1, e2⟩ => ⟨H, by rw [tiny hn, e2]; exact st, by rw [eG]; exact hG, by rw [ey, e1]; simp only [SimV]; exact ⟨[], rfl, by simp [SimL]⟩⟩
  cases loc with
  | none =>
    have q2 : ls = [] := q2
    exact small (by rw [q2]; simp) (.inl rfl)
  | some pv =>
    obtain ⟨p, v⟩ := pv
    by_cases hn : ls.length ≤ 1
    · exact small hn (.inr ⟨p, v, rfl⟩)
    · have hA : ACalls P fs [.agg [.fn (.func g) [] ycs, .fn (.func sw) [] [.sl p v 0 ls.length, .cst (tyH P.globals.size e)]], .int .i64 (ls.length : Int)] S fun r S' => r = .tup [] ∧ ∃ H', St3 H' TS' S' ∧ SimG H' G' AG ∧ SimV H' y r := by
        rw [hgs]
        refine ACallsMono hsum fun r S' ⟨H', w1, w2, w3⟩ => ⟨?_, H', w1, w2, w3⟩
        rw [ey] at w3
        simp only [SimV] at w3
        obtain ⟨_, rfl, w3⟩ := w3
        simp only [SimL] at w3
        rw [w3]
      exact sls_more h (by omega) (by omega) hA
theorem sls_fok {f fs sw t gs e : Nat} (h : SlsOk P f fs sw t e) (hgs : P.globals.size = gs) {c : Cz} (hc : ConZ P fs c) (hfind : ∀ l g cs n, c.find [.agg [.fn g cs, .fn sw [.slf l, .cst (tyH gs e)]], n] = some l) (htiny : ∀ k ls a, ls.length ≤ 1 → c.fn k ls a = ls) : FiOk P f (slsFi c t sw gs e) :=
  ⟨fun h => (by cases h), fun h => (by cases h), fun s hs => by cases hs; exact sls_sum h hgs hc hfind htiny⟩
end Go.Vc
