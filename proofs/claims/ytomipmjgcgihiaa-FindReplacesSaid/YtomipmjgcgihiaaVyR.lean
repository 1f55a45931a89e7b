/-
  From the contracts over the abstract store to those of the library's make, and back, where nothing is owned.
-/
import Derived.Test.YtomipmjgcgihiaaVyM
import Derived.Below
set_option linter.unusedVariables false
set_option linter.unusedSimpArgs false
namespace Go.Vc
open Go.RowKit
theorem no_own {E : Env} {b : Nat} : ¬ Own E [] b := fun ⟨l, o, q, _⟩ => by simp at q
theorem ext_below {E E' : Env} {fz fz' : Nat → Prop} {S' : Store} {w w' : World} (h : Ext E fz [] w E' fz' S' w') : Below w.heap.size w w' :=
  ⟨h.os, h.tape.1, h.output, h.size, fun k hk => h.keep k hk no_own⟩
theorem below_ext (hd : ¬ Dm) {E : Env} {fz : Nat → Prop} {w w' : World} (st : St E fz [] w) (b : Below w.heap.size w w') : Ext E fz [] w E fz [] w' ∧ St E fz [] w' :=
  ⟨⟨fun _ _ h => h, fun _ h => h, fun _ h => .inl h, fun k hk _ => b.block k hk, fun _ h => .inl h, b.size, b.os, b.output, ⟨b.tape, fun d => absurd d hd⟩⟩,
   ⟨fun l o h => by simp at h, fun l l' b' ⟨o, q, _⟩ => by simp at q, fun b' h => Nat.lt_of_lt_of_le (st.fzlt b' h) b.size, st.fresh⟩⟩
theorem st_none (w : World) : St (fun _ => none) (fun _ => False) [] w :=
  ⟨fun l o h => by simp at h, fun l l' b' ⟨o, q, _⟩ => by simp at q, fun b' h => h.elim, ⟨0, fun _ _ => rfl⟩⟩
theorem flat_i64 : ∀ zs : List Int, zs.flatMap (fun n : Int => encT (.int .i64) n) = zs.map (AVal.int .i64)
  | [] => rfl
  | a :: l => by
    have := flat_i64 l
    simp only [List.map_cons, List.flatMap_cons] at *
    rw [this]; rfl
theorem flat_get {zs : List Int} {j : Nat} {z : Int} (h : zs[j]? = some z) : (zs.flatMap (fun n : Int => encT (.int .i64) n))[j]? = some (.int .i64 z) := by
  rw [flat_i64, List.getElem?_map, h]; rfl
/-- An integer that is handed back. -/
theorem Con.callsInt {P : Program} {f : FuncId} {args : Tys} {k : IntKind} {pre : Ts args → Prop} {fn : Ts args → RTs [.val (.int k)]} (h : Con P f ⟨args, [.val (.int k)], pre, fn⟩) (x : Ts args) (hx : pre x) {vals : List Value} {w : World}
    (hr : RelL (fun _ => none) (fun _ => False) w (encAs args x) vals) : Calls P f vals.toArray w fun e w' => e = .returned (.int k (hdR (.val (.int k)) [] (fn x))) ∧ Below w.heap.size w w' := by
  refine (((h.2 x hx).out _ _ w vals (st_none w) hr).calls h.1).mono ?_
  rintro e w' ⟨r, S', v, E', fz', rfl, hx, st, hrel, ys, h1, rfl⟩
  simp only [resA] at h1
  obtain ⟨ys', rfl, rfl, rfl⟩ := h1
  have hrel : Rel E' fz' w' (.int k (hdR (.val (.int k)) [] (fn x))) v := hrel
  simp only [Rel] at hrel
  subst hrel
  exact ⟨rfl, ext_below hx⟩
/-- A row of integers that is handed back. -/
theorem Con.callsInts {P : Program} {f : FuncId} {args : Tys} {pre : Ts args → Prop} {fn : Ts args → RTs [.own (.int .i64)]} (h : Con P f ⟨args, [.own (.int .i64)], pre, fn⟩) (x : Ts args) (hx : pre x) {vals : List Value} {w : World}
    (hr : RelL (fun _ => none) (fun _ => False) w (encAs args x) vals) : Calls P f vals.toArray w fun e w' => Below w.heap.size w w' ∧ ∃ a c, e = .returned (.slice a (hdR (.own (.int .i64)) [] (fn x) : List Int).length c) ∧
      ((hdR (.own (.int .i64)) [] (fn x) : List Int) = [] ∨ ∃ b base, a = some ⟨b, base, none⟩ ∧ w.heap.size ≤ b ∧ b < w'.heap.size ∧ ∀ (j : Nat) (z : Int), (hdR (.own (.int .i64)) [] (fn x) : List Int)[j]? = some z → w'.cell? ⟨b, base + j, none⟩ = some (.int .i64 z)) := by
  refine (((h.2 x hx).out _ _ w vals (st_none w) hr).calls h.1).mono ?_
  rintro e w' ⟨r, S', v, E', fz', rfl, hx, st, hrel, ys, h1, rfl⟩
  refine ⟨ext_below hx, ?_⟩
  simp only [resA] at h1
  generalize (hdR (.own (.int .i64)) [] (fn x) : List Int) = zs at *
  rcases h1 with ⟨ver, ys', S'', rfl, rfl, rfl, rfl⟩ | ⟨hz, ys', rfl, rfl, rfl⟩
  · have hrel : Rel E' fz' w' (.sl 0 ver 0 zs.length) v := hrel
    simp only [Rel] at hrel
    rcases hrel with ⟨h0, a, rfl⟩ | ⟨b, base, cap, k, c, e1, e2, e3, rfl⟩
    · exact ⟨a, 0, by rw [h0], .inl (List.eq_nil_of_length_eq_zero h0)⟩
    · refine ⟨_, c, rfl, ?_⟩
      by_cases hz : zs = []
      · exact .inl hz
      refine .inr ⟨b, base, by simp, ?_⟩
      have hp : ([Ob.row ver (szT (.int .i64)) (zs.flatMap (encT (.int .i64)))] : Store)[0]? = some (.row ver (szT (.int .i64)) (zs.flatMap (encT (.int .i64)))) := rfl
      rcases st.ok 0 _ hp with ⟨g1, g2⟩ | ⟨b', base', cap', arr, T, lo, hi, g1, g2, g3, g4, g5, g6, g7⟩
      · rw [e1] at g1; cases g1
      rw [e1] at g1; cases g1
      have hb : b < w'.heap.size := (Array.getElem?_eq_some_iff.1 g2).1
      refine ⟨?_, hb, fun j z hj => ?_⟩
      · rcases hx.own b ⟨0, _, hp, by simp [obBlock, e1]⟩ with h' | h'
        · exact absurd h' no_own
        · exact h'
      · have hj' := flat_get (zs := zs) hj
        obtain ⟨c', hc, _, hrel⟩ := g6.get hj'
        simp only [Rel] at hrel
        subst hrel
        exact hc
  · have hrel : Rel E' fz' w' .nils v := hrel
    simp only [Rel] at hrel
    subst hrel
    subst hz
    exact ⟨none, 0, rfl, .inl rfl⟩
end Go.Vc
