/- sort.Slice over words and where they are, as a summary. Conditions: none. -/
import Derived.Test.YtmpmlnjiolbplaaLayS
import Derived.Test.YtmpmlnjiolbplaaW3
import Derived.Test.YtmpmlnjiolbplaaVyO
import Derived.Deep.QuietTactic
set_option linter.unusedVariables false
set_option linter.unusedSimpArgs false
namespace Go.Proofs.Ytmpmlnjiolbplaa.W
open Go.Vc Go.Fu Go.Shelf Go.RowKit Go.Lib Go.Sort
set_option maxHeartbeats 2000000 in
/-- The closure: it reads a variable and two cells of the row. -/
theorem words_less (Bs os_ blk off c size : Nat) (W : World) (x y : ByteArray) (hs : W.cell? ⟨Bs, os_, none⟩ = some (.slice (some ⟨blk, off, none⟩) size c))
    (i j : Nat) (hi : i < size) (hj : j < size) (ci : W.cell? ⟨blk, off + i * 2, none⟩ = some (.string x)) (cj : W.cell? ⟨blk, off + j * 2, none⟩ = some (.string y)) (hn : size < 4611686018427387904) :
    Calls Try.prog 14 #[.int .i64 i, .int .i64 j, .pointer (some ⟨Bs, os_, none⟩)] W fun e w' => e = .returned (.bool (Op.bytesLess x.toList y.toList)) ∧ ∃ q, w' = W.drewN q := by
  go_enter Try.func14, Try.ntmps14
  go_wp2
  go_quiet (fail)
  go_wp2
  go_ret
  exact ⟨rfl, nq, rfl⟩
noncomputable def wordT : TypeInfo := (Try.prog.info? 22).get (by kernel_rfl)
noncomputable def wordE : TypeInfo := (Try.prog.info? 39).get (by kernel_rfl)
theorem wordK (n : Nat) (h2 : 2 ≤ n) : Lib.swapperK n wordE 25 = 9 := by
  have a : wordE.hasPointers = true := by kernel_rfl
  have b : wordE.bytes = 40 := by kernel_rfl
  have c : (n == 0) = false := by simp; omega
  have d : (n == 1) = false := by simp; omega
  simp [Lib.swapperK, a, b, c, d]
theorem wordK0 : Lib.swapperK 0 wordE 25 = 1 := by kernel_rfl
theorem wordK1 : Lib.swapperK 1 wordE 25 = 2 := by kernel_rfl
theorem words_tiny (p : Option Addr) (n c : Nat) (h1 : n ≤ 1) (lb : Array Value) (w : World) : Calls Try.prog 13 #[.iface 22 (.slice p n c), .func (.func 14) #[] lb] w fun e w' => e = .returned (.tuple #[]) ∧ ∃ os, w' = grow w os := by
  rcases Nat.lt_or_ge n 1 with q | q
  · obtain rfl : n = 0 := by omega
    exact Any.sort_Slice_tiny Try.sortSlice 22 39 wordT wordE (by kernel_rfl) (by kernel_rfl) (by kernel_rfl) (by kernel_rfl) 25 (fun _ => by kernel_rfl) p 0 c (by omega) 41 (by rw [wordK0]; kernel_rfl) _ _ lb w
  · obtain rfl : n = 1 := by omega
    exact Any.sort_Slice_tiny Try.sortSlice 22 39 wordT wordE (by kernel_rfl) (by kernel_rfl) (by kernel_rfl) (by kernel_rfl) 25 (fun _ => by kernel_rfl) p 1 c (by omega) 42 (by rw [wordK1]; kernel_rfl) _ _ lb w
/-- New blocks alone. -/
theorem grow_post {E : Env} {fz : Nat → Prop} {S : Store} {w : World} (st : St E fz S w) (os : Array Obj) : St E fz S (grow w os) ∧ Ext E fz S w E fz S (grow w os) := by
  have hh : ∀ b : Nat, b < w.heap.size → (grow w os).heap[b]? = w.heap[b]? := fun b hb => by
    show (w.heap ++ os)[b]? = _
    rw [Array.getElem?_append_left hb]
  have hs : w.heap.size ≤ (grow w os).heap.size := by show w.heap.size ≤ (w.heap ++ os).size; simp
  exact ⟨⟨fun l o hl => (st.ok l o hl).mono (fun _ _ h => h) (fun _ h => h) (fun b hb => hh b (st.fzlt b hb)) fun b hb => ⟨hh b (st.own_lt ⟨o, hl, hb⟩).1, (st.own_lt ⟨o, hl, hb⟩).2⟩, st.sep, fun b hb => Nat.lt_of_lt_of_le (st.fzlt b hb) hs, st.fresh⟩,
    ⟨fun _ _ h => h, fun _ h => h, fun _ h => .inl h, fun b hb _ => hh b hb, fun _ h => .inl h, hs, rfl, rfl, (Tp.of rfl (Nat.le_refl _))⟩⟩
theorem box_cell {E : Env} {fz : Nat → Prop} {S : Store} {w : World} (st : St E fz S w) {p v k : Nat} {x : AVal} (hp : S[p]? = some (.row v k [x])) : ∃ b base cap kk, E v = some (.real b base cap kk) ∧ b < w.heap.size ∧ ∃ c, w.cell? ⟨b, base, none⟩ = some c ∧ Rel E fz w x c := by
  rcases st.ok p _ hp with ⟨_, h⟩ | ⟨b, base, cap, arr, T, lo, hi, g1, g2, g3, g4, g5, g6, g7⟩
  · cases h
  · obtain ⟨c, h1, _, h3⟩ := g6.get (i := 0) rfl
    exact ⟨b, base, cap, k, g1, (Array.getElem?_eq_some_iff.1 g2).1, c, by simpa using h1, h3⟩
theorem wCells_get {D : List WE} {i : Nat} {d : WE} (h : D[i]? = some d) : (wCells D)[i * 2]? = some (.str d.1) ∧ (wCells D)[i * 2 + 1]? = some (.sl d.2.2.1 d.2.2.2 0 d.2.1.length) := by
  induction D generalizing i with
  | nil => simp at h
  | cons e D ih =>
    cases i with
    | zero => simp at h; subst h; exact ⟨rfl, rfl⟩
    | succ i =>
      obtain ⟨h1, h2⟩ := ih (i := i) (by simpa using h)
      have e1 : (i + 1) * 2 = i * 2 + 2 := by omega
      constructor
      · rw [e1]; show (.str e.1 :: .sl _ _ _ _ :: wCells D)[i * 2 + 2]? = _
        simpa using h1
      · rw [e1]; show (.str e.1 :: .sl _ _ _ _ :: wCells D)[i * 2 + 1 + 2]? = _
        simpa using h2
abbrev WA (E : Env) (fz : Nat → Prop) (w : World) := { z : WE × Value // z.2.oneCell' = true ∧ Rel E fz w (.sl z.1.2.2.1 z.1.2.2.2 0 z.1.2.1.length) z.2 }
def waEnc {E : Env} {fz : Nat → Prop} {w : World} (z : WA E fz w) : List Value := [.string ⟨z.1.1.1.toArray⟩, z.1.2]
def waLt {E : Env} {fz : Nat → Prop} {w : World} (x y : WA E fz w) : Bool := Op.bytesLess x.1.1.1 y.1.1.1
theorem bytes_lt (a b : List UInt8) : Op.bytesLess a b = decide (a < b) := Go.Proofs.bytesLess_eq a b
theorem waSwo {E : Env} {fz : Nat → Prop} {w : World} : SWO (waLt (E := E) (fz := fz) (w := w)) where
  irrefl x := by unfold waLt; rw [bytes_lt]; exact decide_eq_false (List.lt_irrefl x.1.1.1)
  trans x y z h1 h2 := by
    unfold waLt at *; rw [bytes_lt, decide_eq_true_eq] at *; exact List.lt_trans h1 h2
  ntrans x y z h1 h2 := by
    unfold waLt at *; rw [bytes_lt, decide_eq_false_iff_not, List.not_lt] at *; exact List.le_trans h2 h1
theorem flat_at {α : Type} [Inhabited α] {enc : α → List Value} {d : Array α} {j : Nat} (hj : j < d.size) (r : Nat) (hr : r < 2) : (flatK enc 2 d)[j * 2 + r]! = (enc d[j]!)[r]! := by
  rw [get_flatK _ _ _ _ (by omega), show (j * 2 + r) / 2 = j by omega, show (j * 2 + r) % 2 = r by omega]
theorem two_of (t : Nat) : ∃ j r, t = j * 2 + r ∧ r < 2 := ⟨t / 2, t % 2, by omega, by omega⟩
set_option maxHeartbeats 2000000 in
theorem wsort_calls {S : Store} {p ver ps vs ks : Nat} {D : List WE} (hp : S[p]? = some (.row ver 2 (wCells D))) (hs : S[ps]? = some (.row vs ks [.sl p ver 0 D.length])) (hn : ((wTab D).map (·.1)).Nodup) (hlen : D.length ≤ 1000000) :
    ACalls Try.prog 13 [.iface 22 (.sl p ver 0 D.length), .fn (.func 14) [] [.ptr ps vs 0]] S fun r S' => r = .tup [] ∧ ∃ D' : List WE, D'.Perm D ∧ wTab D' = WL (wTab D) ∧ S' = S.set p (.row ver 2 (wCells D')) := by
  have hlt : p < S.length := (List.getElem?_eq_some_iff.1 hp).1
  refine ⟨fun E fz w vals st hrel => .inl ⟨by kernel_rfl, ?_⟩⟩
  simp only [RelL, Rel] at hrel
  obtain ⟨v1, _, rfl, ⟨u, rfl, r1⟩, v2, _, rfl, ⟨_, us, rfl, rfl, w2, _, rfl, ⟨bs, os_, cs, ks', es, rfl⟩, rfl⟩, rfl⟩ := hrel
  by_cases h2 : D.length ≤ 1
  · have e0 : WL (wTab D) = wTab D := WL_eq (.refl _) (by
      match D, h2 with
      | [], _ => exact .nil
      | [a], _ => exact List.pairwise_singleton ..)
    have e1 : ∃ a c, u = .slice a D.length c := by
      rcases r1 with ⟨h0, a, rfl⟩ | ⟨b, base, cap, kk, c, e1, e2, e3, rfl⟩
      · exact ⟨a, 0, by rw [h0]⟩
      · exact ⟨_, c, rfl⟩
    obtain ⟨a, c, rfl⟩ := e1
    refine (words_tiny a D.length c h2 _ w).mono ?_
    rintro e w' ⟨rfl, os, rfl⟩
    have e2 : S.set p (.row ver 2 (wCells D)) = S := by
      apply List.ext_getElem?
      intro i
      by_cases h : i = p
      · subst h; rw [List.getElem?_set_self hlt, hp]
      · rw [List.getElem?_set_ne (Ne.symm h)]
    obtain ⟨g1, g2⟩ := grow_post st os
    exact ⟨.tup [], S, .tuple #[], E, fz, rfl, g2, g1, by simp only [Rel, RelL]; exact ⟨[], rfl, rfl⟩, rfl, D, .refl _, e0.symm, e2.symm⟩
  rcases r1 with ⟨h0, _⟩ | ⟨b, base, cap, kk, c, e1, e2, e3, rfl⟩
  · omega
  rcases st.ok p _ hp with ⟨g1, g2⟩ | ⟨b', base', cap', arr, T, lo, hi, g1, g2, g3, g4, g5, g6, g7⟩
  · rw [e1] at g1; cases g1
  rw [e1] at g1; cases g1
  have hl0 : 0 < D.length := by omega
  have hb : b < w.heap.size := (Array.getElem?_eq_some_iff.1 g2).1
  have hln := wCells_len D
  rw [hln] at g4
  have hstr : ∀ i (hi : i < D.length), w.cell? ⟨b, base + i * 2, none⟩ = some (.string ⟨(D[i]).1.toArray⟩) := fun i hi => by
    obtain ⟨c', hc, _, hrel⟩ := g6.get (wCells_get (List.getElem?_eq_getElem hi)).1
    simp only [Rel] at hrel
    subst hrel; exact hc
  have hval : ∀ i (hi : i < D.length), ∃ v, w.cell? ⟨b, base + (i * 2 + 1), none⟩ = some v ∧ v.oneCell' = true ∧ Rel E fz w (.sl (D[i]).2.2.1 (D[i]).2.2.2 0 (D[i]).2.1.length) v := fun i hi => g6.get (wCells_get (List.getElem?_eq_getElem hi)).2
  let mk : Fin D.length → WA E fz w := fun i => ⟨(D[i], Classical.choose (hval i i.2)), (Classical.choose_spec (hval i i.2)).2⟩
  letI : Inhabited (WA E fz w) := ⟨mk ⟨0, hl0⟩⟩
  obtain ⟨d, hd⟩ : ∃ d : Array (WA E fz w), d = Array.ofFn mk := ⟨_, rfl⟩
  have hds : d.size = D.length := by rw [hd, Array.size_ofFn]
  have hget : ∀ j (hj : j < D.length), d[j]! = mk ⟨j, hj⟩ := fun j hj => by
    rw [getElem!_pos _ j (by omega)]
    subst hd; simp
  have hdl : d.toList.map (·.1.1) = D := by
    refine List.ext_getElem (by simp [hds]) fun i h1 h3 => ?_
    have := hget i h3
    rw [getElem!_pos _ i (by omega)] at this
    simp only [List.getElem_map, Array.getElem_toList, this]
    rfl
  have hfro : ∀ j, j < D.length * 2 → w.frozen? ⟨b, base + j, none⟩ = false := fun j hj => by
    rw [frozen_mk g2]
    rcases g5 with g5 | g5
    · subst g5
      by_cases q : lo ≤ base + j
      · have : ¬ base + j < lo := by omega
        simp [this]
      · simp [q]
    · have : ¬ lo ≤ base + j := by omega
      simp [this]
  have hH : HoldsK waEnc 2 w b base d := fun t ht => by
    rw [size_flatK, hds] at ht
    obtain ⟨j, r, rfl, hr⟩ := two_of t
    have hj : j < D.length := by omega
    refine ⟨?_, hfro _ ht⟩
    rw [flat_at (by omega) r hr, hget j hj]
    rcases r with _ | _ | r
    · exact hstr j hj
    · have := (Classical.choose_spec (hval j hj)).1
      exact this
    · omega
  obtain ⟨bs', os', cs', ks2, es', hbs, c2, hc2, rc2⟩ := box_cell st hs
  rw [es] at es'; cases es'
  have rc2' : ∃ c', c2 = .slice (some ⟨b, base, none⟩) D.length c' := by
    simp only [Rel] at rc2
    rcases rc2 with ⟨h0, _⟩ | ⟨b3, base3, cap3, k3, c3, q1, q2, q3, rfl⟩
    · omega
    · rw [e1] at q1; cases q1; exact ⟨c3, by simp⟩
  obtain ⟨c', rfl⟩ := rc2'
  have nps : ps ≠ p := fun e => by
    subst e
    have q := hp.symm.trans hs
    simp only [Option.some.injEq, Ob.row.injEq] at q
    have := congrArg List.length q.2.2
    rw [hln] at this; simp at this; omega
  have nbs : bs ≠ b := fun e => by
    subst e
    exact nps (st.sep ps p bs ⟨_, hs, by simp [obBlock, es]⟩ ⟨_, hp, by simp [obBlock, e1]⟩)
  have hless : LessReadsK Try.prog 14 #[.pointer (some ⟨bs, os_ + 0, none⟩)] (waEnc (E := E) (fz := fz) (w := w)) 2 waLt b base d.size w := fun m os dk hsz i j hi hj => by
    obtain ⟨k1, k2, k3⟩ := sortWorld_heap (enc := id) (off := base) (m := m) (dk := flatK waEnc 2 dk) (os := os) g2
    have row : ∀ t, t < d.size → (sortWorldK waEnc 2 w b base m dk os).cell? ⟨b, base + t * 2, none⟩ = some (.string ⟨(dk[t]!).1.1.1.toArray⟩) := fun t htt => by
      show (sortWorld id w b base m (flatK waEnc 2 dk) os).cell? _ = _
      rw [cell_mk k1]
      simp only [putCells, Array.getElem?_mapIdx, Array.getElem?_eq_getElem (show base + t * 2 < arr.size by omega), Option.map_some]
      rw [if_pos ⟨by omega, by rw [size_flatK]; omega⟩, show base + t * 2 - base = t * 2 + 0 by omega, flat_at (by omega) 0 (by omega)]
      rfl
    have h := words_less bs (os_ + 0) b base c' d.size (sortWorldK waEnc 2 w b base m dk os) ⟨(dk[i]!).1.1.1.toArray⟩ ⟨(dk[j]!).1.1.1.toArray⟩
      (by show (sortWorld id w b base m (flatK waEnc 2 dk) os).cell? _ = _; rw [Nat.add_zero, cell_of_heap (w := w) (k2 bs nbs hbs), hc2, hds]) i j hi hj (row i hi) (row j hj) (by omega)
    rw [ByteArray.toList_eq, ByteArray.toList_eq] at h
    exact h
  have hcon := Any.sort_Slice_cells_sorted Try.sortSlice 22 39 wordT wordE (by kernel_rfl) (by kernel_rfl) (by kernel_rfl) (by kernel_rfl) 25 (fun _ => by kernel_rfl) (waEnc (E := E) (fz := fz) (w := w)) 2 (fun _ => rfl) (by kernel_rfl) (fun _ => by kernel_rfl)
    (fun x v hv => by
      simp only [waEnc, List.mem_cons, List.not_mem_nil, or_false] at hv
      rcases hv with rfl | rfl
      · rfl
      · exact x.2.1) waLt waSwo 14 _
    (enters_of Try.func14 (by kernel_rfl) rfl) b base c d (by omega) (by omega) 49 (by rw [wordK _ (by omega)]; kernel_rfl) false
    (fun args W => run_callFunc_extern Try.func49 (by kernel_rfl) (by kernel_rfl) (by kernel_rfl) (e := Extern.ReflectliteSwapper.swap false) (by kernel_rfl) args W) w hless hH hb
  rw [hds] at hcon
  refine (show Calls Try.prog 13 #[.iface 22 (.slice (some ⟨b, base, none⟩) D.length c), .func (.func 14) #[] #[.pointer (some ⟨bs, os_ + 0, none⟩)]] w _ from hcon).mono ?_
  rintro e w' ⟨rfl, d', n, os, hP, hSo, rfl⟩
  have hd's : d'.size = D.length := by rw [← hds]; exact hP.1
  have hPe : d'.toList.Perm d.toList := by
    have := hP.2.2
    rwa [show d'.extract 0 D.length = d' by rw [← hd's]; simp, show d.extract 0 D.length = d by rw [← hds]; simp] at this
  have hmp : (d'.toList.map (·.1.1)).Perm D := (hPe.map (·.1.1)).trans (by rw [hdl])
  have hsort : (wTab (d'.toList.map (·.1.1))).Pairwise fun a b => a.1 < b.1 := by
    have nd : ((wTab (d'.toList.map (·.1.1))).map (·.1)).Nodup := ((hmp.map fun d : WE => (d.1, d.2.1)).map (·.1)).nodup_iff.2 hn
    refine List.pairwise_iff_getElem.2 fun i j hi hj hij => ?_
    have hne := List.pairwise_iff_getElem.1 (List.nodup_iff_pairwise_ne.1 nd) i j (by simpa using hi) (by simpa using hj) hij
    simp only [wTab, List.length_map, Array.length_toList] at hi hj
    have q := hSo i j (Nat.zero_le _) hij (by omega)
    rw [getElem!_pos _ i hi, getElem!_pos _ j hj] at q
    simp only [wTab, List.getElem_map, Array.getElem_toList] at hne ⊢
    unfold waLt at q
    rw [bytes_lt, decide_eq_false_iff_not, List.not_lt] at q
    exact (str_lt_iff _ _).2 ⟨q, hne⟩
  obtain ⟨k1, k2, k3⟩ := sortWorld_heap (enc := id) (off := base) (m := n) (dk := flatK waEnc 2 d') (os := os) g2
  have ln2 : (wCells (d'.toList.map (·.1.1))).length = D.length * 2 := by rw [wCells_len]; simp [hd's]
  obtain ⟨q1, q2⟩ := st.upd (E' := E) (S' := S.set p (.row ver 2 (wCells (d'.toList.map (·.1.1))))) (w' := sortWorld id w b base n (flatK waEnc 2 d') os) p (.row ver 2 (wCells (d'.toList.map (·.1.1)))) (fun _ _ h => h) st.fresh
    (fun l' hl' => by rw [List.getElem?_set_ne (Ne.symm hl')]) (by rw [List.getElem?_set_self hlt]) k3 (fun b' hb' hno => k2 b' (fun e => hno (by subst e; exact ⟨_, hp, by simp [obBlock, e1]⟩)) hb')
    (fun b' hb' => .inl (by simp [obBlock, e1] at hb'; subst hb'; exact ⟨_, hp, by simp [obBlock, e1]⟩))
    (.inr ⟨b, base, cap, putCells id base (flatK waEnc 2 d') arr, T, lo, hi, e1, k1, by simpa [putCells] using g3, by rw [ln2]; exact g4, by simpa [putCells] using g5, RelC.mk fun t x hx => (by
        have ht : t < D.length * 2 := by
          rcases Nat.lt_or_ge t (D.length * 2) with h | h
          · exact h
          · rw [List.getElem?_eq_none (by rw [ln2]; omega)] at hx; cases hx
        obtain ⟨j, r, rfl, hr⟩ := two_of t
        have hj : j < d'.size := by omega
        have hcell : (sortWorld id w b base n (flatK waEnc 2 d') os).cell? ⟨b, base + (j * 2 + r), none⟩ = some ((waEnc d'[j]!)[r]!) := by
          rw [cell_mk k1]
          simp only [putCells, Array.getElem?_mapIdx, Array.getElem?_eq_getElem (show base + (j * 2 + r) < arr.size by omega), Option.map_some]
          rw [if_pos ⟨by omega, by rw [size_flatK]; omega⟩, show base + (j * 2 + r) - base = j * 2 + r by omega, flat_at hj r hr]
          rfl
        have hgd : (d'.toList.map (·.1.1))[j]? = some (d'[j]!).1.1 := by
          rw [List.getElem?_map, Array.getElem?_toList, Array.getElem?_eq_getElem hj, getElem!_pos _ j hj]; rfl
        obtain ⟨c1, c2⟩ := wCells_get hgd
        refine ⟨_, hcell, ?_⟩
        rcases r with _ | _ | r
        · rw [Nat.add_zero, c1] at hx; cases hx
          exact ⟨rfl, by simp only [Rel]; rfl⟩
        · rw [c2] at hx; cases hx
          exact ⟨(d'[j]!).2.1, Rel.mono (fun _ _ h => h) (fun _ h => h) (fun b' hb' => k2 b' (fun e => g7 (e ▸ hb')) (st.fzlt b' hb')) _ (d'[j]!).2.2⟩
        · omega), g7⟩) rfl rfl (Tp.of rfl (by show w.drawn ≤ w.drawn + n; omega))
  exact ⟨.tup [], _, .tuple #[], E, fz, rfl, q2, q1, by simp only [Rel, RelL]; exact ⟨[], rfl, rfl⟩, rfl, d'.toList.map (fun x : WA E fz w => x.1.1), hmp, Eq.symm (WL_eq (T := wTab D) (L := wTab (d'.toList.map fun x : WA E fz w => x.1.1)) (hmp.map fun d : WE => (d.1, d.2.1)) hsort), rfl⟩
theorem wsort_nil {S : Store} {ps vs : Nat} : ACalls Try.prog 13 [.iface 22 .nils, .fn (.func 14) [] [.ptr ps vs 0]] S fun r S' => r = .tup [] ∧ S' = S := by
  refine ⟨fun E fz w vals st hrel => .inl ⟨by kernel_rfl, ?_⟩⟩
  simp only [RelL, Rel] at hrel
  obtain ⟨v1, _, rfl, ⟨u, rfl, rfl⟩, v2, _, rfl, ⟨_, us, rfl, rfl, w2, _, rfl, ⟨bs, os_, cs, ks', es, rfl⟩, rfl⟩, rfl⟩ := hrel
  refine (words_tiny none 0 0 (by omega) _ w).mono ?_
  rintro e w' ⟨rfl, os, rfl⟩
  obtain ⟨g1, g2⟩ := grow_post st os
  exact ⟨.tup [], S, .tuple #[], E, fz, rfl, g2, g1, by simp only [Rel, RelL]; exact ⟨[], rfl, rfl⟩, rfl, rfl⟩
end Go.Proofs.Ytmpmlnjiolbplaa.W
