/-
  From the contracts over the abstract store to those of the library's make, and back, where nothing is owned.
-/
import Derived.Test.YtakkifkpihdcnaaDoorVyM
import Derived.Below
import Derived.Laws.IdiomCopy
import Derived.Laws.Append
set_option linter.unusedVariables false
set_option linter.unusedSimpArgs false
namespace Go.Vc
open Go.RowKit
theorem no_own {E : Env} {b : Nat} : ¬ Own E [] b := fun ⟨l, o, q, _⟩ => by simp at q
theorem ext_below {E E' : Env} {fz fz' : Nat → Prop} {S' : Store} {w w' : World} (h : Ext E fz [] w E' fz' S' w') : Below w.heap.size w w' :=
  ⟨h.os, h.tape.1, h.output, h.size, fun k hk => h.keep k hk no_own⟩
theorem below_ext (hd : ¬ Dm) {E : Env} {fz : Nat → Prop} {w w' : World} (st : St E fz [] w) (b : Below w.heap.size w w') : Ext E fz [] w E fz [] w' ∧ St E fz [] w' :=
  ⟨⟨fun _ _ h => h, fun _ h => h, fun _ h => .inl h, fun k hk _ => b.block k hk, fun _ h => .inl h, b.size, b.os, b.output, ⟨b.tape, fun d => absurd d hd⟩⟩,
   ⟨fun l o h => by simp at h, fun l l' b' ⟨o, q, _⟩ => by simp at q, fun b' h => Nat.lt_of_lt_of_le (st.fzlt b' h) b.size, st.fresh⟩⟩
theorem st_none (w : World) : St (fun _ => none) (fun _ => False) [] w :=
  ⟨fun l o h => by simp at h, fun l l' b' ⟨o, q, _⟩ => by simp at q, fun b' h => h.elim, ⟨0, fun _ _ => rfl⟩⟩
theorem flat_i64 : ∀ zs : List Int, zs.flatMap (fun n : Int => encT (.int .i64) n) = zs.map (AVal.int .i64)
  | [] => rfl
  | a :: l => by
    have := flat_i64 l
    simp only [List.map_cons, List.flatMap_cons] at *
    rw [this]; rfl
theorem flat_get {zs : List Int} {j : Nat} {z : Int} (h : zs[j]? = some z) : (zs.flatMap (fun n : Int => encT (.int .i64) n))[j]? = some (.int .i64 z) := by
  rw [flat_i64, List.getElem?_map, h]; rfl
/-- An integer that is handed back. -/
theorem Con.callsInt {P : Program} {f : FuncId} {args : Tys} {k : IntKind} {pre : Ts args → Prop} {fn : Ts args → RTs [.val (.int k)]} (h : Con P f ⟨args, [.val (.int k)], pre, fn⟩) (x : Ts args) (hx : pre x) {vals : List Value} {w : World}
    (hr : RelL (fun _ => none) (fun _ => False) w (encAs args x) vals) : Calls P f vals.toArray w fun e w' => e = .returned (.int k (hdR (.val (.int k)) [] (fn x))) ∧ Below w.heap.size w w' := by
  refine (((h.2 x hx).out _ _ w vals (st_none w) hr).calls h.1).mono ?_
  rintro e w' ⟨r, S', v, E', fz', rfl, hx, st, hrel, ys, h1, rfl⟩
  simp only [resA] at h1
  obtain ⟨ys', rfl, rfl, rfl⟩ := h1
  have hrel : Rel E' fz' w' (.int k (hdR (.val (.int k)) [] (fn x))) v := hrel
  simp only [Rel] at hrel
  subst hrel
  exact ⟨rfl, ext_below hx⟩
/-- A row of integers that is handed back. -/
theorem Con.callsInts {P : Program} {f : FuncId} {args : Tys} {pre : Ts args → Prop} {fn : Ts args → RTs [.own (.int .i64)]} (h : Con P f ⟨args, [.own (.int .i64)], pre, fn⟩) (x : Ts args) (hx : pre x) {vals : List Value} {w : World}
    (hr : RelL (fun _ => none) (fun _ => False) w (encAs args x) vals) : Calls P f vals.toArray w fun e w' => Below w.heap.size w w' ∧ ∃ a c, e = .returned (.slice a (hdR (.own (.int .i64)) [] (fn x) : List Int).length c) ∧
      ((hdR (.own (.int .i64)) [] (fn x) : List Int) = [] ∨ ∃ b base, a = some ⟨b, base, none⟩ ∧ w.heap.size ≤ b ∧ b < w'.heap.size ∧ ∀ (j : Nat) (z : Int), (hdR (.own (.int .i64)) [] (fn x) : List Int)[j]? = some z → w'.cell? ⟨b, base + j, none⟩ = some (.int .i64 z)) := by
  refine (((h.2 x hx).out _ _ w vals (st_none w) hr).calls h.1).mono ?_
  rintro e w' ⟨r, S', v, E', fz', rfl, hx, st, hrel, ys, h1, rfl⟩
  refine ⟨ext_below hx, ?_⟩
  simp only [resA] at h1
  generalize (hdR (.own (.int .i64)) [] (fn x) : List Int) = zs at *
  rcases h1 with ⟨ver, ys', S'', rfl, rfl, rfl, rfl⟩ | ⟨hz, ys', rfl, rfl, rfl⟩
  · have hrel : Rel E' fz' w' (.sl 0 ver 0 zs.length) v := hrel
    simp only [Rel] at hrel
    rcases hrel with ⟨h0, a, rfl⟩ | ⟨b, base, cap, k, c, e1, e2, e3, rfl⟩
    · exact ⟨a, 0, by rw [h0], .inl (List.eq_nil_of_length_eq_zero h0)⟩
    · refine ⟨_, c, rfl, ?_⟩
      by_cases hz : zs = []
      · exact .inl hz
      refine .inr ⟨b, base, by simp, ?_⟩
      have hp : ([Ob.row ver (szT (.int .i64)) (zs.flatMap (encT (.int .i64)))] : Store)[0]? = some (.row ver (szT (.int .i64)) (zs.flatMap (encT (.int .i64)))) := rfl
      rcases st.ok 0 _ hp with ⟨g1, g2⟩ | ⟨b', base', cap', arr, T, lo, hi, g1, g2, g3, g4, g5, g6, g7⟩
      · rw [e1] at g1; cases g1
      rw [e1] at g1; cases g1
      have hb : b < w'.heap.size := (Array.getElem?_eq_some_iff.1 g2).1
      refine ⟨?_, hb, fun j z hj => ?_⟩
      · rcases hx.own b ⟨0, _, hp, by simp [obBlock, e1]⟩ with h' | h'
        · exact absurd h' no_own
        · exact h'
      · have hj' := flat_get (zs := zs) hj
        obtain ⟨c', hc, _, hrel⟩ := g6.get hj'
        simp only [Rel] at hrel
        subst hrel
        exact hc
  · have hrel : Rel E' fz' w' .nils v := hrel
    simp only [Rel] at hrel
    subst hrel
    subst hz
    exact ⟨none, 0, rfl, .inl rfl⟩
/-- All that is there may be read. -/
def allOld (w : World) : Nat → Prop := fun b => b < w.heap.size
theorem st_old (w : World) : St (fun _ => none) (allOld w) [] w :=
  ⟨fun l o h => by simp at h, fun l l' b' ⟨o, q, _⟩ => by simp at q, fun b' h => h, ⟨0, fun _ _ => rfl⟩⟩
/-- A row that is handed back, as its owner knows it. -/
def OwnRow (w0 : Nat) (t : Ty) (l : List (T t)) (v : Value) (w : World) : Prop :=
  (l = [] ∧ ∃ a, v = .slice a 0 0) ∨ ∃ b base c cap arr tt lo hi E fz, v = .slice (some ⟨b, base, none⟩) l.length c ∧ l.length ≤ c ∧ c * szT t ≤ cap ∧ w0 ≤ b ∧ w.heap[b]? = some (.cells arr tt (lo, hi)) ∧ base + cap ≤ arr.size ∧
    (lo = hi ∨ arr.size ≤ lo) ∧ RelC E fz w b base (l.flatMap (encT t))
theorem Con.callsOwn {P : Program} {f : FuncId} {args : Tys} {t : Ty} {pre : Ts args → Prop} {fn : Ts args → RTs [.own t]} (h : Con P f ⟨args, [.own t], pre, fn⟩) (x : Ts args) (hx : pre x) {vals : List Value} {w : World}
    (hr : RelL (fun _ => none) (allOld w) w (encAs args x) vals) : Calls P f vals.toArray w fun e w' => Below w.heap.size w w' ∧ ∃ v, e = .returned v ∧ OwnRow w.heap.size t (hdR (.own t) [] (fn x)) v w' := by
  refine (((h.2 x hx).out _ _ w vals (st_old w) hr).calls h.1).mono ?_
  rintro e w' ⟨r, S', v, E', fz', rfl, hx, st, hrel, ys, h1, rfl⟩
  refine ⟨ext_below hx, v, rfl, ?_⟩
  simp only [resA] at h1
  generalize (hdR (.own t) [] (fn x) : List (T t)) = zs at *
  rcases h1 with ⟨ver, ys', S'', rfl, rfl, rfl, rfl⟩ | ⟨hz, ys', rfl, rfl, rfl⟩
  · have hrel : Rel E' fz' w' (.sl 0 ver 0 zs.length) v := hrel
    simp only [Rel] at hrel
    rcases hrel with ⟨h0, a, rfl⟩ | ⟨b, base, cap, k, c, e1, e2, e3, rfl⟩
    · exact .inl ⟨List.eq_nil_of_length_eq_zero h0, a, rfl⟩
    · have hp : ([Ob.row ver (szT t) (zs.flatMap (encT t))] : Store)[0]? = some (.row ver (szT t) (zs.flatMap (encT t))) := rfl
      rcases st.ok 0 _ hp with ⟨g1, g2⟩ | ⟨b', base', cap', arr, tt, lo, hi, g1, g2, g3, g4, g5, g6, g7⟩
      · rw [e1] at g1; cases g1
      rw [e1] at g1; cases g1
      refine .inr ⟨b, base, c, cap, arr, tt, lo, hi, E', fz', rfl, e2, by simpa using e3, ?_, g2, g3, g5, g6⟩
      rcases hx.own b ⟨0, _, hp, by simp [obBlock, e1]⟩ with h' | h'
      · exact absurd h' no_own
      · exact h'
  · have hrel : Rel E' fz' w' .nils v := hrel
    simp only [Rel] at hrel
    exact .inl ⟨hz, none, hrel⟩
/-- copy, elements of any size: all is read before anything is written. -/
theorem run_copy_k {P : Program} (w : World) (dT sT ty elem : TypeId) (i : TypeInfo) (b o dLen dCap : Nat) (a : Addr) (sLen sCap : Nat) (cs : List Value)
    (hu : P.underlying dT = some (.slice elem)) (hi : P.info? elem = some i) (hn : cs.length = Nat.min sLen dLen * i.size)
    (hsrc : ∀ j v, cs[j]? = some v → w.cell? (a.add j) = some v) (hc : ∀ j, j < cs.length → (w.cell? ⟨b, o + j, none⟩).isSome = true) (hf : ∀ j, j < cs.length → w.frozen? ⟨b, o + j, none⟩ = false) (h1 : ∀ v ∈ cs, v.oneCell' = true) :
    (Builtin.copy_ #[dT, sT] ty #[.slice (some ⟨b, o, none⟩) dLen dCap, .slice (some a) sLen sCap]).run P w = .ok (goInt (Nat.min sLen dLen)) (w.setCells b o cs) := by
  have hl := run_firstCells_some (P := P) w i.size (Nat.min sLen dLen) a sLen sCap cs hn hsrc
  have hst := run_storeCells_cells (P := P) b o cs 0 w (by simpa using hc) (by simpa using hf) h1
  have hsz : (sizeOf elem).run P w = .ok i.size w := run_size (by simp [tSize, hi]) w
  simp [Builtin.copy_, run_underlying hu, Builtin.lenOf, hsz, hl, hst]
/-- A new row by append: what is drawn as its capacity is below 2^63. -/
theorem run_append_newc {P : Program} {w : World} {t u e ty : TypeId} {ut : TypeDesc} {i : TypeInfo} {z : Value} {ats : Array TypeId} {args : Array Value} {base : Option Addr} {sLen sCap n : Nat} {xv : Value} {olds news : List Value}
    (ht0 : ats[0]? = some t) (ht1 : ats[1]? = some u) (a0 : args[0]? = some (.slice base sLen sCap)) (a1 : args[1]? = some xv) (ht : P.underlying t = some (.slice e)) (hu : P.underlying u = some ut) (hut : (∃ e', ut = .slice e') ∨ ut = .string) (hi : P.info? e = some i) (hz : i.zero = some z) (hb0 : 0 < i.bytes)
    (hlen : ∀ w' : World, (Builtin.lenOf xv).run P w' = .ok n w') (hcells : ∀ w' : World, w'.heap = w.heap → (Builtin.firstCells i.size n xv).run P w' = .ok news.toArray w') (hold : ∀ w' : World, w'.heap = w.heap → (Builtin.firstCells i.size sLen (.slice base sLen sCap)).run P w' = .ok olds.toArray w')
    (hg : sCap < sLen + n) (hfit : (sLen + n) * i.bytes ≤ 140737488355328) :
    ∃ (w' : World) (rest : List Value) (cap : Nat), (sLen + n ≤ cap ∧ cap ≤ 9223372036854775807) ∧ rest.length = (cap - (sLen + n)) * z.cells.size ∧ (Builtin.append_ ats ty args).run P w = .ok (.slice (some ⟨w.heap.size, 0, none⟩) (sLen + n) cap) w' ∧
        w'.heap = w.heap.push (.cells (olds ++ news ++ rest).toArray e (0, 0)) ∧ w'.os = w.os ∧ w'.output = w.output ∧ Tp w w' := by
  have hsz : ∀ w' : World, (sizeOf e).run P w' = .ok i.size w' := fun w' => run_size (by simp [tSize, hi]) w'
  have hbb : sLen + n ≤ (sLen + n) * i.bytes := Nat.le_mul_of_pos_right _ hb0
  have f2 : ¬ (Builtin.nextslicecap (sLen + n) sCap * i.bytes > 2 ^ 48) := by
    have := growslice_fits (bytes := i.bytes) hg hfit
    omega
  have f3 : ¬ (sLen + n ≤ sCap) := by omega
  have f4 : ¬ (i.bytes = 0) := by omega
  have hcapq : sLen + n ≤ (Question.appendCap (sLen + n) sCap e).cut (w.tape w.drawn (.appendCap (sLen + n) sCap e)) := by simp [Question.cut]
  have hcapb : (Question.appendCap (sLen + n) sCap e).cut (w.tape w.drawn (.appendCap (sLen + n) sCap e)) ≤ 9223372036854775807 := by
    have := Nat.mod_lt (w.tape w.drawn (.appendCap (sLen + n) sCap e)) (show 0 < 2 ^ 63 - (sLen + n) by omega)
    simp only [Question.cut]; omega
  have hf : (Question.appendCap (sLen + n) sCap e).forced = false := rfl
  generalize hq : (Question.appendCap (sLen + n) sCap e).cut (w.tape w.drawn (.appendCap (sLen + n) sCap e)) = cap at hcapq hcapb
  refine ⟨w.drew.alloc (.cells (olds ++ news ++ (Builtin.zeroCells z.cells (cap - (sLen + n))).toList).toArray e), (Builtin.zeroCells z.cells (cap - (sLen + n))).toList, cap, ⟨hcapq, hcapb⟩, ?_, ?_, rfl, rfl, rfl, (Tp.of rfl (Nat.le_succ _))⟩
  · simp [Builtin.zeroCells]
  · have hd : w.drew.heap = w.heap := rfl
    have c1 := hcells w.drew hd
    have c2 := hold w.drew hd
    have c3 : (zeroValue e).run P w.drew = .ok z w.drew := by simp [zeroValue, run_info hi, hz]
    rcases hut with ⟨e', rfl⟩ | rfl <;>
      · simp only [Builtin.append_, ht0, ht1, a0, a1, Sem.run_bind, run_underlying ht, run_underlying hu, Result.andThen_ok, hsz, Sem.run_pure, Bool.false_eq_true, if_false, hlen, f3, run_info hi, false_or, f4, and_false, f2, Bool.not_false, if_true, run_choose, hf, hq, run_askRoom, World.drew_eq, c1, c2, c3, newRow, run_newObj]
        rw [show olds.toArray ++ news.toArray ++ Builtin.zeroCells z.cells (cap - (sLen + n)) = (olds ++ news ++ (Builtin.zeroCells z.cells (cap - (sLen + n))).toList).toArray from by apply Array.ext'; simp]
        rfl
end Go.Vc
