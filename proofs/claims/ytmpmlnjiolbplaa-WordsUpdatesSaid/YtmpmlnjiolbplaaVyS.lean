/-
  slices.Sort at integers, by the library's contract.
-/
import Derived.Test.YtmpmlnjiolbplaaVyO
import Derived.Shelf.SortM.Plain
import Derived.Shelf.SortM.SortNone
set_option linter.unusedVariables false
set_option linter.unusedSimpArgs false
namespace Go.Vc
open Go.Sort Go.Shelf Go.Proofs
def sortL (ls : List Int) : List Int := ls.mergeSort fun x y => decide (x ≤ y)
theorem sortL_length (ls : List Int) : (sortL ls).length = ls.length := by unfold sortL; exact List.length_mergeSort ls
theorem isort_calls {P : Program} {ρ : Ren} (L : SlLaysM.n5 P ρ) (ha : callable P (ρ.f 5) = true) {p ver : Nat} {S : Store} {ls : List Int} (hp : S[p]? = some (.row ver 1 (ints64 ls))) (hlen : ls.length < 4611686018427387904) :
    ACalls P (ρ.f 5) [.sl p ver 0 ls.length] S fun r S' => r = .tup [] ∧ S' = S.set p (.row ver 1 (ints64 (sortL ls))) := by
  refine ⟨fun E fz w vals st hrel => ?_⟩
  simp only [RelL] at hrel
  obtain ⟨v1, _, rfl, r1, rfl⟩ := hrel
  simp only [Rel] at r1
  have hlt : p < S.length := (List.getElem?_eq_some_iff.1 hp).1
  cases ls with
  | nil =>
    have e : ∃ a c, v1 = .slice a 0 c := by
      rcases r1 with ⟨_, a, rfl⟩ | ⟨b, base, cap, kk, c, e1, e2, e3, rfl⟩
      · exact ⟨a, 0, rfl⟩
      · exact ⟨_, c, rfl⟩
    obtain ⟨a, c, rfl⟩ := e
    refine .inl ⟨ha, (AnyM.slices_Sort_int_none L a c w).mono ?_⟩
    rintro e w' ⟨rfl, rfl⟩
    have e0 : S.set p (.row ver 1 (ints64 (sortL []))) = S := by
      apply List.ext_getElem?
      intro i
      by_cases h : i = p
      · subst h; rw [List.getElem?_set_self hlt, hp, show sortL [] = [] by simp [sortL]]
      · rw [List.getElem?_set_ne (Ne.symm h)]
    refine ⟨.tup [], _, .tuple #[], E, fz, rfl, ?_, ?_, ?_, rfl, rfl⟩
    · rw [e0]; exact Ext.refl
    · rw [e0]; exact st
    · simp only [Rel, RelL]; exact ⟨[], rfl, rfl⟩
  | cons a r =>
    rcases r1 with ⟨h0, _⟩ | ⟨b, base, cap, kk, c, e1, e2, e3, rfl⟩
    · cases h0
    rcases st.ok p _ hp with ⟨g1, g2⟩ | ⟨b', base', cap', arr, T, lo, hi, g1, g2, g3, g4, g5, g6, g7⟩
    · rw [e1] at g1; cases g1
    rw [e1] at g1; cases g1
    have hlt' : b < w.heap.size := (Array.getElem?_eq_some_iff.1 g2).1
    have hln : (ints64 (a :: r)).length = (a :: r).length := by simp
    have hH : Holds (Value.int .i64) w b base (a :: r).toArray := fun j hj => by
      have hj : j < (a :: r).length := by simpa using hj
      have hx : (ints64 (a :: r))[j]? = some (.int .i64 (a :: r)[j]) := by
        rw [List.getElem?_map, List.getElem?_eq_getElem hj]; rfl
      obtain ⟨c', hc, _, hrel⟩ := g6.get hx
      simp only [Rel] at hrel
      subst hrel
      refine ⟨by rw [hc, getElem!_pos _ j (by simpa using hj)]; simp, ?_⟩
      rw [frozen_mk g2]
      rw [hln] at g4
      rcases g5 with g5 | g5
      · subst g5
        by_cases q : lo ≤ base + j
        · have : ¬ base + j < lo := by omega
          simp [this]
        · simp [q]
      · have : ¬ lo ≤ base + j := by omega
        simp [this]
    refine .inl ⟨ha, (AnyM.slices_Sort_int L b base c (a :: r) w hH hlt' hlen).mono ?_⟩
    rintro e w' ⟨rfl, n, os, rfl⟩
    have hsl := sortL_length (a :: r)
    obtain ⟨k1, k2, k3⟩ := sortWorld_heap (enc := Value.int .i64) (off := base) (m := n) (dk := (sortL (a :: r)).toArray) (os := os) g2
    obtain ⟨q1, q2⟩ := st.upd (E' := E) (S' := S.set p (.row ver 1 (ints64 (sortL (a :: r))))) (w' := sortWorld (Value.int .i64) w b base n (sortL (a :: r)).toArray os) p (.row ver 1 (ints64 (sortL (a :: r)))) (fun _ _ h => h) st.fresh
      (fun l' hl' => by rw [List.getElem?_set_ne (Ne.symm hl')]) (by rw [List.getElem?_set_self hlt]) k3 (fun b' hb' hno => k2 b' (fun e => hno (by subst e; exact ⟨_, hp, by simp [obBlock, e1]⟩)) hb')
      (fun b' hb' => .inl (by simp [obBlock, e1] at hb'; subst hb'; exact ⟨_, hp, by simp [obBlock, e1]⟩))
      (.inr ⟨b, base, cap, putCells (Value.int .i64) base (sortL (a :: r)).toArray arr, T, lo, hi, e1, k1, by simpa [putCells] using g3, by
        rw [hln] at g4
        simp only [ints64, List.length_map, hsl]; exact g4, by simpa [putCells] using g5, RelC.mk fun i x hx => (by
          have hi' : i < (sortL (a :: r)).length := by
            rcases Nat.lt_or_ge i (sortL (a :: r)).length with h | h
            · exact h
            · rw [List.getElem?_eq_none (by simpa using h)] at hx; cases hx
          have ex : x = .int .i64 ((sortL (a :: r))[i]'hi') := by
            simp only [ints64, List.getElem?_map, List.getElem?_eq_getElem hi', Option.map_some, Option.some.injEq] at hx
            exact hx.symm
          subst ex
          rw [hln] at g4
          rw [hsl] at hi'
          refine ⟨.int .i64 ((sortL (a :: r))[i]'(by rw [hsl]; exact hi')), ?_, rfl, by simp only [Rel]⟩
          rw [cell_mk k1]
          simp only [putCells, Array.getElem?_mapIdx, Array.getElem?_eq_getElem (show base + i < arr.size by omega), Option.map_some]
          rw [if_pos ⟨by omega, by simp only [List.size_toArray]; omega⟩, show base + i - base = i by omega, getElem!_pos _ i (by simp only [List.size_toArray]; omega)]
          simp), g7⟩) rfl rfl (Tp.of rfl (by show w.drawn ≤ w.drawn + n; omega))
    exact ⟨.tup [], _, .tuple #[], E, fz, rfl, q2, q1, by simp only [Rel, RelL]; exact ⟨[], rfl, rfl⟩, rfl, rfl⟩
end Go.Vc
