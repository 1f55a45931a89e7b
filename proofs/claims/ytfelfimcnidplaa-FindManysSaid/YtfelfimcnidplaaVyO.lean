/-
  slices.SortFunc at a list of integers, by the library's contract, as a summary.
-/
import Derived.Test.YtfelfimcnidplaaVyN
import Derived.Shelf.SlSortCmp.NoneTotal
set_option linter.unusedVariables false
set_option linter.unusedSimpArgs false
namespace Go.Vc
open Go.Sort Go.Shelf Go.Proofs

/-- 'less than nought' is a strict weak order on the elements of a list. -/
structure SortOk {α : Type} (cf : α → α → Int) (ls : List α) : Prop where
  irrefl : ∀ x ∈ ls, ¬ cf x x < 0
  trans : ∀ x ∈ ls, ∀ y ∈ ls, ∀ z ∈ ls, cf x y < 0 → cf y z < 0 → cf x z < 0
  ntrans : ∀ x ∈ ls, ∀ y ∈ ls, ∀ z ∈ ls, ¬ cf x y < 0 → ¬ cf y z < 0 → ¬ cf x z < 0

abbrev In {α : Type} (ls : List α) := {x // x ∈ ls}
abbrev inCf {α : Type} (cf : α → α → Int) (ls : List α) : In ls → In ls → Int := fun x y => cf x.1 y.1
abbrev inhIn {α : Type} (a : α) (r : List α) : Inhabited (In (a :: r)) := ⟨⟨a, List.mem_cons_self⟩⟩
def pdqA {α : Type} (cf : α → α → Int) (a : α) (r : List α) : Array (In (a :: r)) :=
  @pdq _ (inhIn a r) (ltOf (inCf cf (a :: r))) (a :: r).attach.toArray 0 (a :: r).attach.toArray.size (Lib.bitLen (a :: r).attach.toArray.size) true true
/-- What slices.SortFunc makes of a list. -/
def pdqL {α : Type} (cf : α → α → Int) : List α → List α
  | [] => []
  | a :: r => (pdqA cf a r).toList.map (·.1)

theorem SortOk.swo {α : Type} {cf : α → α → Int} {ls : List α} (h : SortOk cf ls) : SWO (ltOf (inCf cf ls)) where
  irrefl x := by simpa [ltOf] using h.irrefl x.1 x.2
  trans x y z h1 h2 := by
    simp only [ltOf, decide_eq_true_eq] at *
    exact h.trans x.1 x.2 y.1 y.2 z.1 z.2 h1 h2
  ntrans x y z h1 h2 := by
    simp only [ltOf, decide_eq_false_iff_not] at *
    exact h.ntrans x.1 x.2 y.1 y.2 z.1 z.2 h1 h2

theorem extract_all {α : Type} (d : Array α) : d.extract 0 d.size = d := by simp
theorem pdqL_laws {α : Type} {cf : α → α → Int} : ∀ {ls : List α}, SortOk cf ls → (pdqL cf ls).Perm ls ∧ (pdqL cf ls).Pairwise fun x y => ¬ cf y x < 0
  | [], _ => ⟨.refl _, .nil⟩
  | a :: r, h => by
    letI := inhIn a r
    have hs : PermIn 0 (a :: r).attach.toArray.size (a :: r).attach.toArray (pdqA cf a r) ∧ SortedIn (ltOf (inCf cf (a :: r))) 0 (a :: r).attach.toArray.size (pdqA cf a r) := pdq_sorts (ltOf (inCf cf (a :: r))) h.swo (a :: r).attach.toArray 0 (a :: r).attach.toArray.size (Lib.bitLen (a :: r).attach.toArray.size) true true (Nat.zero_le _) (Nat.le_refl _) (.inl rfl)
    obtain ⟨⟨h1, _, h3⟩, h4⟩ := hs
    rw [extract_all, ← h1, extract_all] at h3
    constructor
    · show ((pdqA cf a r).toList.map (·.1)).Perm (a :: r)
      refine (h3.map (·.1)).trans ?_
      simp
    · show List.Pairwise _ ((pdqA cf a r).toList.map (·.1))
      rw [List.pairwise_map, List.pairwise_iff_getElem]
      intro i j hi hj hij
      have q := h4 i j (Nat.zero_le _) hij (by rw [← h1]; simpa using hj)
      simp only [Array.length_toList] at hi hj
      rw [getElem!_pos _ i hi, getElem!_pos _ j hj] at q
      simpa [ltOf] using q
theorem pdqL_length {α : Type} {cf : α → α → Int} {ls : List α} (h : SortOk cf ls) : (pdqL cf ls).length = ls.length := (pdqL_laws h).1.length_eq

theorem world_ext {a b : World} (h1 : a.heap = b.heap) (h2 : a.tape = b.tape) (h3 : a.drawn = b.drawn) (h4 : a.os = b.os) (h5 : a.output = b.output) : a = b := by
  cases a; cases b; simp only at h1 h2 h3 h4 h5; subst h1 h2 h3 h4 h5; rfl

/-- Where nothing is owned a call lays new blocks and draws. -/
theorem grow_of (hd : Dm) {E E' : Env} {fz fz' : Nat → Prop} {S' : Store} {w w' : World} (h : Ext E fz [] w E' fz' S' w') : ∃ q os, w' = grow (w.drewN q) os := by
  have hs := h.size
  have ht := h.tape
  refine ⟨w'.drawn - w.drawn, w'.heap.extract w.heap.size w'.heap.size, world_ext ?_ ht.1 ?_ h.os h.output⟩
  · apply Array.ext_getElem?
    intro i
    show w'.heap[i]? = (w.heap ++ w'.heap.extract w.heap.size w'.heap.size)[i]?
    rw [Array.getElem?_append]
    split
    · rename_i hi
      exact h.keep i hi fun ⟨l, o, q, _⟩ => by simp at q
    · rename_i hi
      rw [Array.getElem?_extract]
      split
      · rw [show w.heap.size + (i - w.heap.size) = i by omega]
      · rw [Array.getElem?_eq_none]; omega
  · show w'.drawn = w.drawn + (w'.drawn - w.drawn)
    have := ht.2 hd
    omega

theorem sortWorld_heap {α : Type} [Inhabited α] {enc : α → Value} {w : World} {b off m : Nat} {dk : Array α} {os : Array Obj} {arr : Array Value} {T : TypeId} {fr : Nat × Nat} (hb : w.heap[b]? = some (.cells arr T fr)) :
    (sortWorld enc w b off m dk os).heap[b]? = some (.cells (putCells enc off dk arr) T fr) ∧ (∀ b' : Nat, b' ≠ b → b' < w.heap.size → (sortWorld enc w b off m dk os).heap[b']? = w.heap[b']?) ∧ w.heap.size ≤ (sortWorld enc w b off m dk os).heap.size := by
  have e : (sortWorld enc w b off m dk os).heap = w.heap.modify b (onCells (putCells enc off dk)) ++ os := rfl
  have hlt : b < w.heap.size := (Array.getElem?_eq_some_iff.1 hb).1
  refine ⟨?_, fun b' hb' hl => ?_, ?_⟩
  · rw [e, Array.getElem?_append_left (by simpa using hlt), Array.getElem?_modify, if_pos rfl, hb]
    rfl
  · rw [e, Array.getElem?_append_left (by simpa using hl), Array.getElem?_modify, if_neg (Ne.symm hb')]
  · rw [e]; simp

abbrev ints64 (ls : List Int) : List AVal := ls.map (AVal.int .i64)

theorem sort_calls (hd : Dm) {P : Program} {ρ : Ren} (L : SlLaysF.n6 P ρ) (ha : callable P (ρ.f 6) = true) {g p ver : Nat} {S : Store} {ls : List Int} {cf : Int → Int → Int} {ycaps : List AVal} (hp : S[p]? = some (.row ver 1 (ints64 ls))) (hg : callable P g = true) (hO : SortOk cf ls) (hlen : ls.length < 4611686018427387904)
    (hv : ∀ E fz w us, St E fz S w → RelL E fz w ycaps us → ∃ ys', (∀ x ∈ ls, ∀ y ∈ ls, ACalls P g ([.int .i64 x, .int .i64 y] ++ ys') [] fun r _ => r = .int .i64 (cf x y)) ∧ RelL E (allBut E fz S p) w ys' us) :
    ACalls P (ρ.f 6) [.sl p ver 0 ls.length, .fn (.func g) [] ycaps] S fun r S' => r = .tup [] ∧ S' = S.set p (.row ver 1 (ints64 (pdqL cf ls))) := by
  refine ⟨fun E fz w vals st hrel => ?_⟩
  simp only [RelL] at hrel
  obtain ⟨v1, _, rfl, r1, v2, _, rfl, r2, rfl⟩ := hrel
  simp only [Rel, RelL] at r1 r2
  obtain ⟨_, us, rfl, rfl, r4⟩ := r2
  have hlt : p < S.length := (List.getElem?_eq_some_iff.1 hp).1
  cases ls with
  | nil =>
    have e : ∃ a c, v1 = .slice a 0 c := by
      rcases r1 with ⟨_, a, rfl⟩ | ⟨b, base, cap, kk, c, e1, e2, e3, rfl⟩
      · exact ⟨a, 0, rfl⟩
      · exact ⟨_, c, rfl⟩
    obtain ⟨a, c, rfl⟩ := e
    refine .inl ⟨ha, (AnyF.slices_SortFunc_none (P := P) (ρ := ρ) { L with } a c _ w).mono ?_⟩
    rintro e w' ⟨rfl, rfl⟩
    have e0 : S.set p (.row ver 1 (ints64 (pdqL cf []))) = S := by
      apply List.ext_getElem?
      intro i
      by_cases h : i = p
      · subst h; rw [List.getElem?_set_self hlt, hp]; rfl
      · rw [List.getElem?_set_ne (Ne.symm h)]
    refine ⟨.tup [], _, .tuple #[], E, fz, rfl, ?_, ?_, ?_, rfl, rfl⟩
    · rw [e0]; exact Ext.refl
    · rw [e0]; exact st
    · simp only [Rel, RelL]; exact ⟨[], rfl, rfl⟩
  | cons a r =>
    rcases r1 with ⟨h0, _⟩ | ⟨b, base, cap, kk, c, e1, e2, e3, rfl⟩
    · cases h0
    rcases st.ok p _ hp with ⟨g1, g2⟩ | ⟨b', base', cap', arr, T, lo, hi, g1, g2, g3, g4, g5, g6, g7⟩
    · rw [e1] at g1; cases g1
    rw [e1] at g1; cases g1
    letI := inhIn a r
    have hlt' : b < w.heap.size := (Array.getElem?_eq_some_iff.1 g2).1
    have hsz : (a :: r).attach.toArray.size = (a :: r).length := by simp
    have hln : (ints64 (a :: r)).length = (a :: r).length := by simp
    have hget : ∀ j (hj : j < (a :: r).length), ((a :: r).attach.toArray[j]!).1 = (a :: r)[j] := fun j hj => by
      rw [getElem!_pos _ j (by rw [hsz]; exact hj), List.getElem_toArray, List.getElem_attach]
    have hcell : ∀ j, j < (a :: r).attach.toArray.size → w.cell? ⟨b, base + j, none⟩ = some (Value.int .i64 ((a :: r).attach.toArray[j]!).1) := fun j hj => by
      rw [hsz] at hj
      have hx : (ints64 (a :: r))[j]? = some (.int .i64 (a :: r)[j]) := by
        rw [List.getElem?_map, List.getElem?_eq_getElem hj]; rfl
      obtain ⟨c', hc, _, hrel⟩ := g6.get hx
      simp only [Rel] at hrel
      subst hrel
      rw [hc, hget j hj]
    have hH : Holds (fun x : In (a :: r) => Value.int .i64 x.1) w b base (a :: r).attach.toArray := fun j hj => by
      refine ⟨hcell j hj, ?_⟩
      rw [frozen_mk g2]
      rw [hsz] at hj
      rw [hln] at g4
      rcases g5 with g5 | g5
      · subst g5
        by_cases q : lo ≤ base + j
        · have : ¬ base + j < lo := by omega
          simp [this]
        · simp [q]
      · have : ¬ lo ≤ base + j := by omega
        simp [this]
    have hcmp : CmpLays1 P g us.toArray (fun x : In (a :: r) => Value.int .i64 x.1) (inCf cf (a :: r)) b base (a :: r).attach.toArray.size w := fun m os dk hs x y => by
      obtain ⟨ys', hA, hR⟩ := hv E fz w us st r4
      obtain ⟨k1, k2, k3⟩ := sortWorld_heap (enc := fun x : In (a :: r) => Value.int .i64 x.1) (off := base) (m := m) (dk := dk) (os := os) g2
      have nb : ∀ b', allBut E fz S p b' → b' ≠ b ∧ b' < w.heap.size := fun b' hb' => by
        rcases hb' with hb' | ⟨l, hl, ho⟩
        · exact ⟨fun e => g7 (e ▸ hb'), st.fzlt b' hb'⟩
        · exact ⟨fun e => hl (st.sep l p b (e ▸ ho) ⟨_, hp, by simp [obBlock, e1]⟩), (st.own_lt ho).1⟩
      have stW : St E (allBut E fz S p) [] (sortWorld (fun x : In (a :: r) => Value.int .i64 x.1) w b base m dk os) :=
        ⟨fun l o hl => by simp at hl, fun l l' b' ⟨o, h, _⟩ => by simp at h, fun b' hb' => Nat.lt_of_lt_of_le (nb b' hb').2 k3, st.fresh⟩
      have relW := hR.mono (w' := sortWorld (fun x : In (a :: r) => Value.int .i64 x.1) w b base m dk os) (fun _ _ h => h) (fun _ h => h) (fun b' hb' => k2 b' (nb b' hb').1 (nb b' hb').2)
      have hc := (hA x.1 x.2 y.1 y.2).out E _ _ (Value.int .i64 x.1 :: Value.int .i64 y.1 :: us) stW (by
        simp only [List.cons_append, List.nil_append, RelL, Rel]
        exact ⟨_, _, rfl, rfl, _, _, rfl, rfl, relW⟩)
      have hc := hc.calls hg
      have ea : (#[Value.int .i64 x.1, Value.int .i64 y.1] ++ us.toArray : Array Value) = (Value.int .i64 x.1 :: Value.int .i64 y.1 :: us).toArray := by simp
      show Calls P g (#[Value.int .i64 x.1, Value.int .i64 y.1] ++ us.toArray) _ _
      rw [ea]
      refine hc.mono ?_
      rintro e w' ⟨r', S', v, E', fz', rfl, hx, st', hr, rfl⟩
      simp only [Rel] at hr
      subst hr
      exact ⟨rfl, grow_of hd hx⟩
    have hcon := Any.slices_SortFunc_eq (P := P) (ρ := ρ) L (fun x : In (a :: r) => Value.int .i64 x.1) (fun _ => rfl) (inCf cf (a :: r)) hO.swo g us.toArray b base c (a :: r).attach.toArray w (fun args w => run_callFunc hg) hcmp hH hlt' (by rw [hsz]; exact hlen)
    rw [hsz] at hcon
    refine .inl ⟨ha, (show Calls P (ρ.f 6) #[.slice (some ⟨b, base, none⟩) (a :: r).length c, .func (.func g) #[] us.toArray] w _ from hcon).mono ?_⟩
    rintro e w' ⟨rfl, n, os, rfl⟩
    obtain ⟨k1, k2, k3⟩ := sortWorld_heap (enc := fun x : In (a :: r) => Value.int .i64 x.1) (off := base) (m := n) (dk := pdqA cf a r) (os := os) g2
    have hpl : (pdqA cf a r).size = (a :: r).length := by
      have := pdqL_length hO
      simp only [pdqL, List.length_map, Array.length_toList] at this
      exact this
    have hdk : (pdq (ltOf (inCf cf (a :: r))) (a :: r).attach.toArray 0 (a :: r).length (Lib.bitLen (a :: r).length) true true) = pdqA cf a r := by
      unfold pdqA
      rw [hsz]
    rw [hdk]
    obtain ⟨q1, q2⟩ := st.upd (E' := E) (S' := S.set p (.row ver 1 (ints64 (pdqL cf (a :: r))))) (w' := sortWorld (fun x : In (a :: r) => Value.int .i64 x.1) w b base n (pdqA cf a r) os) p (.row ver 1 (ints64 (pdqL cf (a :: r)))) (fun _ _ h => h) st.fresh
      (fun l' hl' => by rw [List.getElem?_set_ne (Ne.symm hl')]) (by rw [List.getElem?_set_self hlt]) k3 (fun b' hb' hno => k2 b' (fun e => hno (by subst e; exact ⟨_, hp, by simp [obBlock, e1]⟩)) hb')
      (fun b' hb' => .inl (by simp [obBlock, e1] at hb'; subst hb'; exact ⟨_, hp, by simp [obBlock, e1]⟩))
      (.inr ⟨b, base, cap, putCells (fun x : In (a :: r) => Value.int .i64 x.1) base (pdqA cf a r) arr, T, lo, hi, e1, k1, by simpa [putCells] using g3, by
        rw [hln] at g4
        have := pdqL_length hO
        simp only [ints64, List.length_map, this]; exact g4, by simpa [putCells] using g5, RelC.mk fun i x hx => (by
          have hi' : i < (pdqA cf a r).size := by
            rcases Nat.lt_or_ge i (pdqA cf a r).size with h | h
            · exact h
            · rw [List.getElem?_eq_none (by simp [pdqL]; omega)] at hx; cases hx
          have ex : x = .int .i64 ((pdqA cf a r)[i]'hi').1 := by
            simp only [ints64, pdqL, List.getElem?_map, Array.getElem?_toList, Array.getElem?_eq_getElem hi', Option.map_some, Option.some.injEq] at hx
            exact hx.symm
          subst ex
          rw [hln] at g4
          refine ⟨.int .i64 ((pdqA cf a r)[i]'hi').1, ?_, rfl, by simp only [Rel]⟩
          rw [cell_mk k1]
          simp only [putCells, Array.getElem?_mapIdx, Array.getElem?_eq_getElem (show base + i < arr.size by omega), Option.map_some]
          rw [if_pos ⟨by omega, by omega⟩, show base + i - base = i by omega, getElem!_pos _ i hi']), g7⟩) rfl rfl (Tp.of rfl (by show w.drawn ≤ w.drawn + n; omega))
    exact ⟨.tup [], _, .tuple #[], E, fz, rfl, q2, q1, by simp only [Rel, RelL]; exact ⟨[], rfl, rfl⟩, rfl, rfl⟩

theorem sort_nil {P : Program} {ρ : Ren} (L : SlLaysF.n6 P ρ) (ha : callable P (ρ.f 6) = true) {S : Store} {f : AVal} : ACalls P (ρ.f 6) [.nils, f] S fun r S' => r = .tup [] ∧ S' = S := by
  refine ⟨fun E fz w vals st hrel => ?_⟩
  simp only [RelL] at hrel
  obtain ⟨v1, _, rfl, r1, v2, _, rfl, r2, rfl⟩ := hrel
  simp only [Rel] at r1
  subst r1
  refine .inl ⟨ha, (AnyF.slices_SortFunc_none (P := P) (ρ := ρ) { L with } none 0 v2 w).mono ?_⟩
  rintro e w' ⟨rfl, rfl⟩
  exact ⟨.tup [], _, .tuple #[], E, fz, rfl, Ext.refl, st, by simp only [Rel, RelL]; exact ⟨[], rfl, rfl⟩, rfl, rfl⟩

/-- A comparison of integers that a closure makes: its function, what it has captured, what it answers. -/
structure Cq where
  g : Nat
  kt : Tys
  caps : Ts kt → List TV
  dec : List TV → Option (Ts kt)
  pre : Ts kt → Int → Int → Prop
  fn : Ts kt → Int → Int → Int
def Cq.cr (q : Cq) : Cr := ⟨.cons (.int .i64) (.cons (.int .i64) .nil), q.kt, q.caps, q.dec, fun k x => q.pre k x.1 x.2, .int .i64, fun k x => q.fn k x.1 x.2⟩

def intRow : (t : Ty) → List (T t) → Option (List Int)
  | .int .i64, l => some l
  | _, _ => none
theorem intRow_eq : ∀ {t : Ty} {ls : List (T t)} {is : List Int}, intRow t ls = some is → (⟨t, ls⟩ : (t : Ty) × List (T t)) = ⟨.int .i64, is⟩ := by
  intro t ls is h
  cases t with
  | int k => cases k <;> simp only [intRow, reduceCtorEq] at h; cases h; rfl
  | _ => simp [intRow] at h

def SortPre (q : Cq) (k : Ts q.kt) (is : List Int) : Prop := is.length < 4611686018427387904 ∧ (∀ x ∈ is, ∀ y ∈ is, q.pre k x y) ∧ SortOk (q.fn k) is
noncomputable def sortEv (q : Cq) (xs : List TV) (G : List RF) (TS : List TOb) : Option (List Prop × TV × List RF × List TOb) :=
  match xs with
  | [.slf l, .fn g caps] => (match Nat.beq g q.g, objAt TS l, viewL (viewV l TS 8) caps with
    | true, some (.row t ls), some cs => (match intRow t ls, q.dec cs with
      | some is, some k => some ([SortPre q k is], .tup [], G, setOb TS l (.row (.int .i64) (pdqL (q.fn k) is)))
      | _, _ => none)
    | _, _, _ => none)
  | _ => none
noncomputable def sortFi (q : Cq) : Fi := ⟨2, .skip, [], .d, ⟨[], []⟩, some ⟨sortEv q⟩⟩

theorem flat_ints : ∀ (is : List Int), is.flatMap (fun n : Int => encT (.int .i64) n) = ints64 is
  | [] => rfl
  | a :: r => by
    have := flat_ints r
    simp only [ints64, List.map_cons, List.flatMap_cons] at *
    rw [this]
    rfl

theorem sort_sum (hd : Dm) {P : Program} {ρ : Ren} (L : SlLaysF.n6 P ρ) (ha : callable P (ρ.f 6) = true) {q : Cq} (hq : ConR P q.g q.cr) : SpOk P (ρ.f 6) ⟨sortEv q⟩ := by
  intro xs G TS ps y G' TS' h hps H S AG ys st hG hs
  unfold sortEv at h
  simp only at h
  split at h
  case h_2 => cases h
  rename_i l g caps
  split at h
  case h_2 => cases h
  rename_i t ls cs hbg ho hv
  split at h
  case h_2 => cases h
  rename_i is k hi hk
  cases h
  have hgq := beq_eq hbg
  subst hgq
  have he := intRow_eq hi
  cases he
  obtain ⟨h1, h2, h3⟩ := hps.cons.1
  simp only [SimL] at hs
  obtain ⟨y1, _, rfl, s1, y2, _, rfl, s2, rfl⟩ := hs
  simp only [SimV] at s1 s2
  obtain ⟨hd, e1, rfl⟩ := s1
  obtain ⟨ycaps, rfl, s3⟩ := s2
  obtain ⟨loc, q1, q2⟩ := row_get st ho
  rw [q1] at e1; cases e1
  cases loc with
  | none =>
    simp only [RowAt] at q2
    have q2 : is = [] := q2
    subst q2
    refine ACallsMono (sort_nil L ha) fun r S' ⟨e1, e2⟩ => ⟨H, ?_, hG, ?_⟩
    · rw [e2, setOb_eq]
      have e3 : TS.set l (.row (.int .i64) ([] : List Int)) = TS := by
        apply List.ext_getElem?
        intro i
        by_cases h : i = l
        · subst h; rw [List.getElem?_set_self (obj_lt ho)]; rw [objAt_eq] at ho; rw [ho]
        · rw [List.getElem?_set_ne (Ne.symm h)]
      show St3 H (TS.set l (.row (.int .i64) ([] : List Int))) S
      rw [e3]; exact st
    · rw [e1]; simp only [SimV]; exact ⟨[], rfl, by simp [SimL]⟩
  | some pv =>
    obtain ⟨p, ver⟩ := pv
    have hp : S[p]? = some (.row ver 1 (ints64 is)) := by
      have q2 : S[p]? = some (.row ver 1 (is.flatMap fun n : Int => encT (.int .i64) n)) := q2
      rw [flat_ints] at q2; exact q2
    refine ACallsMono (sort_calls hd L ha (ycaps := ycaps) hp hq.1 h3 h1 fun E fz w us stw hr => ?_) fun r S' ⟨e1, e2⟩ => ⟨H, ?_, hG, ?_⟩
    · obtain ⟨ys', k1, k2⟩ := view_list (view_rel st stw (l := l) (p := p) (fun m h q0 v hm g1 g2 e => hm (by subst e; exact st.inj _ _ _ _ _ _ _ g1 q1 g2 rfl)) 8) hv s3 hr
      have hc := hq.2.1 _ _ hk
      exact ⟨ys', fun x hx y hy => hq.2.2 k (x, y) (h2 x hx y hy) ys' (by rw [hc] at k1; exact k1), k2⟩
    · rw [e2, setOb_eq]
      refine st.put (obj_lt ho) q1 rfl ⟨some (p, ver), ?_, ?_⟩
      · exact q1.trans (congrArg (fun n => some (⟨some (p, ver), szT (.int .i64), n, []⟩ : Hd)) (pdqL_length h3).symm)
      · show (S.set p _)[p]? = some (.row ver 1 ((pdqL (q.fn k) is).flatMap fun n : Int => encT (.int .i64) n))
        rw [List.getElem?_set_self (List.getElem?_eq_some_iff.1 hp).1, flat_ints]
    · rw [e1]; simp only [SimV]; exact ⟨[], rfl, by simp [SimL]⟩

theorem sort_fok (hd : Dm) {P : Program} {ρ : Ren} {f : Nat} (L : SlLaysF.n6 P ρ) (hf : ρ.f 6 = f) (ha : callable P f = true) {q : Cq} (hq : ConR P q.g q.cr) : FiOk P f (sortFi q) :=
  ⟨fun _ => ha, fun h => (by cases h), fun s hs => by cases hs; subst hf; exact sort_sum hd L ha hq⟩
end Go.Vc
