/-
  slices.SortFunc at pairs of integers that are in order already: they stay.
-/
import Derived.Test.YtfelfimcnidplaaVyO
set_option linter.unusedVariables false
set_option linter.unusedSimpArgs false
namespace Go.Vc
open Go.Sort Go.Shelf Go.Proofs
def pairC (x : Int × Int) : List AVal := [.int .i64 x.1, .int .i64 x.2]
def pairsC (ls : List (Int × Int)) : List AVal := ls.flatMap pairC
def pairE (x : Int × Int) : List Value := [.int .i64 x.1, .int .i64 x.2]
theorem pairsC_len (ls : List (Int × Int)) : (pairsC ls).length = ls.length * 2 := by
  induction ls with
  | nil => rfl
  | cons d D ih => unfold pairsC at *; rw [List.flatMap_cons, List.length_append, ih]; simp [pairC]; omega
theorem pairsC_get {ls : List (Int × Int)} {i : Nat} {d : Int × Int} (h : ls[i]? = some d) : (pairsC ls)[i * 2]? = some (.int .i64 d.1) ∧ (pairsC ls)[i * 2 + 1]? = some (.int .i64 d.2) := by
  induction ls generalizing i with
  | nil => simp at h
  | cons e D ih =>
    cases i with
    | zero => simp at h; subst h; exact ⟨rfl, rfl⟩
    | succ i =>
      obtain ⟨h1, h2⟩ := ih (i := i) (by simpa using h)
      have e1 : (i + 1) * 2 = i * 2 + 2 := by omega
      constructor
      · rw [e1]; show (AVal.int .i64 e.1 :: AVal.int .i64 e.2 :: pairsC D)[i * 2 + 2]? = _
        simpa using h1
      · rw [e1]; show (AVal.int .i64 e.1 :: AVal.int .i64 e.2 :: pairsC D)[i * 2 + 1 + 2]? = _
        simpa using h2
theorem flatP_at {α : Type} [Inhabited α] {enc : α → List Value} {d : Array α} {j : Nat} (hj : j < d.size) (r : Nat) (hr : r < 2) : (flatK enc 2 d)[j * 2 + r]! = (enc d[j]!)[r]! := by
  rw [get_flatK _ _ _ _ (by omega), show (j * 2 + r) / 2 = j by omega, show (j * 2 + r) % 2 = r by omega]
theorem twoP_of (t : Nat) : ∃ j r, t = j * 2 + r ∧ r < 2 := ⟨t / 2, t % 2, by omega, by omega⟩
set_option maxHeartbeats 1000000 in
theorem psort_calls (hd : Dm) {P : Program} {ρ : Ren} (L : SlLaysF0.n6 P ρ) (aE : ∀ w, (isAgg (ρ.t 24)).run P w = .ok true w) (zE : ∀ w, (Go.sizeOf (ρ.t 24)).run P w = .ok 2 w) (ha : callable P (ρ.f 6) = true) {g p ver : Nat} {S : Store} {ls : List (Int × Int)} {c : Int → Int → Int} (hc : ∀ a b, c a b < 0 ↔ a < b)
    (hp : S[p]? = some (.row ver 2 (pairsC ls))) (hg : callable P g = true) (hA : ∀ x y : Int × Int, ACalls P g [.agg (pairC x), .agg (pairC y)] [] fun r _ => r = .int .i64 (c x.1 y.1)) (hs : ls.Pairwise fun a b => a.1 < b.1) (hlen : ls.length < 4611686018427387904) :
    ACalls P (ρ.f 6) [.sl p ver 0 ls.length, .fn (.func g) [] []] S fun r S' => r = .tup [] ∧ S' = S := by
  refine ⟨fun E fz w vals st hrel => ?_⟩
  simp only [RelL] at hrel
  obtain ⟨v1, _, rfl, r1, v2, _, rfl, r2, rfl⟩ := hrel
  simp only [Rel, RelL] at r1 r2
  obtain ⟨_, us, rfl, rfl, rfl⟩ := r2
  by_cases h0 : ls.length = 0
  · have e : ∃ a c, v1 = .slice a 0 c := by
      rcases r1 with ⟨_, a, rfl⟩ | ⟨b, base, cap, kk, c, e1, e2, e3, rfl⟩
      · exact ⟨a, 0, rfl⟩
      · exact ⟨_, c, by rw [h0]⟩
    obtain ⟨a, c, rfl⟩ := e
    refine .inl ⟨ha, (AnyF.slices_SortFunc_none (P := P) (ρ := ρ) L a c _ w).mono ?_⟩
    rintro e w' ⟨rfl, rfl⟩
    exact ⟨.tup [], S, .tuple #[], E, fz, rfl, Ext.refl, st, by simp only [Rel, RelL]; exact ⟨[], rfl, rfl⟩, rfl, rfl⟩
  rcases r1 with ⟨q, _⟩ | ⟨b, base, cap, kk, cc, e1, e2, e3, rfl⟩
  · exact absurd q h0
  rcases st.ok p _ hp with ⟨g1, g2⟩ | ⟨b', base', cap', arr, T, lo, hi, g1, g2, g3, g4, g5, g6, g7⟩
  · rw [e1] at g1; cases g1
  rw [e1] at g1; cases g1
  have hlt' : b < w.heap.size := (Array.getElem?_eq_some_iff.1 g2).1
  have hln := pairsC_len ls
  rw [hln] at g4
  have hds : ls.toArray.size = ls.length := by simp
  have hget : ∀ j (hj : j < ls.length), ls.toArray[j]! = ls[j] := fun j hj => by rw [getElem!_pos _ j (by simpa using hj)]; simp
  have hfro : ∀ j, j < ls.length * 2 → w.frozen? ⟨b, base + j, none⟩ = false := fun j hj => by
    rw [frozen_mk g2]
    rcases g5 with g5 | g5
    · subst g5
      by_cases q : lo ≤ base + j
      · have : ¬ base + j < lo := by omega
        simp [this]
      · simp [q]
    · have : ¬ lo ≤ base + j := by omega
      simp [this]
  have hH : HoldsK pairE 2 w b base ls.toArray := fun t ht => by
    rw [size_flatK, hds] at ht
    obtain ⟨j, r, rfl, hr⟩ := twoP_of t
    have hj : j < ls.length := by omega
    refine ⟨?_, hfro _ ht⟩
    rw [flatP_at (by omega) r hr, hget j hj]
    obtain ⟨c1, c2⟩ := pairsC_get (List.getElem?_eq_getElem hj)
    rcases r with _ | _ | r
    · obtain ⟨c', hc', _, hrel⟩ := g6.get c1
      simp only [Rel] at hrel; subst hrel; exact hc'
    · obtain ⟨c', hc', _, hrel⟩ := g6.get c2
      simp only [Rel] at hrel; subst hrel; exact hc'
    · omega
  have hcmp : CmpLays P g #[] pairE 2 (fun x y : Int × Int => c x.1 y.1) b base ls.toArray.size w := fun m os dk hs x y => by
    have stW : St E (fun _ => False) [] (sortWorldK pairE 2 w b base m dk os) :=
      ⟨fun l o hl => by simp at hl, fun l l' b' ⟨o, h, _⟩ => by simp at h, fun b' hb' => hb'.elim, st.fresh⟩
    have hcl := (hA x y).out E _ _ [.agg (pairE x).toArray, .agg (pairE y).toArray] stW (by
      have ag : ∀ z : Int × Int, Rel E (fun _ => False) (sortWorldK pairE 2 w b base m dk os) (.agg (pairC z)) (.agg (pairE z).toArray) := fun z => by
        simp only [Rel, pairC, RelL]
        exact ⟨pairE z, rfl, ⟨_, _, rfl, rfl, _, _, rfl, rfl, rfl⟩, fun v hv => by simp only [pairE, List.mem_cons, List.not_mem_nil, or_false] at hv; rcases hv with rfl | rfl <;> rfl⟩
      simp only [RelL]
      exact ⟨_, _, rfl, ag x, _, _, rfl, ag y, rfl⟩)
    have hcl := hcl.calls hg
    show Calls P g #[.agg (pairE x).toArray, .agg (pairE y).toArray] _ _
    refine hcl.mono ?_
    rintro e w' ⟨r', S', v, E', fz', rfl, hx, st', hr, rfl⟩
    simp only [Rel] at hr
    subst hr
    exact ⟨rfl, grow_of hd hx⟩
  have swo : SWO (ltOf fun x y : Int × Int => c x.1 y.1) := ⟨fun x => by simp [ltOf, hc], fun x y z h1 h2 => by
    simp only [ltOf, decide_eq_true_eq, hc] at *; omega, fun x y z h1 h2 => by
    simp only [ltOf, decide_eq_false_iff_not, hc] at *; omega⟩
  have hcon := AnyQ.slices_SortFunc (P := P) (ρ := ρ) L 2 aE zE pairE (fun _ => rfl) (fun x v hv => by simp only [pairE, List.mem_cons, List.not_mem_nil, or_false] at hv; rcases hv with rfl | rfl <;> rfl) (fun x y : Int × Int => c x.1 y.1) swo g #[] b base cc ls.toArray w (fun args w => run_callFunc hg) hcmp hH hlt' (by rw [hds]; exact hlen)
  rw [hds] at hcon
  refine .inl ⟨ha, (show Calls P (ρ.f 6) #[.slice (some ⟨b, base, none⟩) ls.length cc, .func (.func g) #[] #[]] w _ by
    have := hcon; exact this).mono ?_⟩
  rintro e w' ⟨rfl, d', n, os, hP, hSo, rfl⟩
  have hd's : d'.size = ls.length := by rw [← hds]; exact hP.1
  have hPe : d'.toList.Perm ls := by
    have := hP.2.2
    rwa [show d'.extract 0 ls.length = d' by rw [← hd's]; simp, show ls.toArray.extract 0 ls.length = ls.toArray by rw [← hds]; simp] at this
  have hdl : d'.toList = ls := by
    have h1 : d'.toList.Pairwise fun a b => a.1 ≤ b.1 := List.pairwise_iff_getElem.2 fun i j hi hj hij => by
      simp only [Array.length_toList] at hi hj
      have q := hSo i j (Nat.zero_le _) hij (by omega)
      rw [getElem!_pos _ i hi, getElem!_pos _ j hj] at q
      simp only [ltOf, decide_eq_false_iff_not, hc] at q
      simp only [Array.getElem_toList]; omega
    refine List.Perm.eq_of_pairwise (le := fun a b : Int × Int => a.1 ≤ b.1) ?_ h1 (hs.imp fun {a b} q => by omega) hPe
    intro x y hx hy h3 h4
    have hx' := hPe.mem_iff.1 hx
    obtain ⟨i, hi, rfl⟩ := List.getElem_of_mem hx'
    obtain ⟨j, hj, rfl⟩ := List.getElem_of_mem hy
    rcases Nat.lt_trichotomy i j with q | q | q
    · have := List.pairwise_iff_getElem.1 hs i j hi hj q; omega
    · subst q; rfl
    · have := List.pairwise_iff_getElem.1 hs j i hj hi q; omega
  obtain ⟨k1, k2, k3⟩ := sortWorld_heap (enc := id) (off := base) (m := n) (dk := flatK pairE 2 d') (os := os) g2
  obtain ⟨q1, q2⟩ := st.upd (E' := E) (S' := S) (w' := sortWorld id w b base n (flatK pairE 2 d') os) p (.row ver 2 (pairsC ls)) (fun _ _ h => h) st.fresh
    (fun l' hl' => rfl) hp k3 (fun b' hb' hno => k2 b' (fun e => hno (by subst e; exact ⟨_, hp, by simp [obBlock, e1]⟩)) hb')
    (fun b' hb' => .inl (by simp [obBlock, e1] at hb'; subst hb'; exact ⟨_, hp, by simp [obBlock, e1]⟩))
    (.inr ⟨b, base, cap, putCells id base (flatK pairE 2 d') arr, T, lo, hi, e1, k1, by simpa [putCells] using g3, by rw [hln]; exact g4, by simpa [putCells] using g5, RelC.mk fun t x hx => (by
        have ht : t < ls.length * 2 := by
          rcases Nat.lt_or_ge t (ls.length * 2) with h | h
          · exact h
          · rw [List.getElem?_eq_none (by rw [hln]; omega)] at hx; cases hx
        obtain ⟨j, r, rfl, hr⟩ := twoP_of t
        have hj : j < d'.size := by omega
        have hcell : (sortWorld id w b base n (flatK pairE 2 d') os).cell? ⟨b, base + (j * 2 + r), none⟩ = some ((pairE d'[j]!)[r]!) := by
          rw [cell_mk k1]
          simp only [putCells, Array.getElem?_mapIdx, Array.getElem?_eq_getElem (show base + (j * 2 + r) < arr.size by omega), Option.map_some]
          rw [if_pos ⟨by omega, by rw [size_flatK]; omega⟩, show base + (j * 2 + r) - base = j * 2 + r by omega, flatP_at hj r hr]
          rfl
        have hgd : ls[j]? = some (d'[j]!) := by
          rw [← hdl, Array.getElem?_toList, Array.getElem?_eq_getElem hj, getElem!_pos _ j hj]
        obtain ⟨c1, c2⟩ := pairsC_get hgd
        refine ⟨_, hcell, ?_⟩
        rcases r with _ | _ | r
        · rw [Nat.add_zero, c1] at hx; cases hx
          exact ⟨rfl, by simp only [Rel]; rfl⟩
        · rw [c2] at hx; cases hx
          exact ⟨rfl, by simp only [Rel]; rfl⟩
        · omega), g7⟩) rfl rfl (Tp.of rfl (by show w.drawn ≤ w.drawn + n; omega))
  exact ⟨.tup [], S, .tuple #[], E, fz, rfl, q2, q1, by simp only [Rel, RelL]; exact ⟨[], rfl, rfl⟩, rfl, rfl⟩
end Go.Vc
