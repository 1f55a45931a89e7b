/- One span put into a row of spans, in place: the library's Insert, walked. Conditions: none. -/
import Derived.Test.YtogjhebilbbdjaaIns
import Derived.Lib.Overlaps
import Derived.Laws.IdiomCopy
import Derived.Laws.Externs
import Derived.Shelf.Spec.SlicesInsert
set_option linter.unusedVariables false
set_option linter.unusedSimpArgs false
namespace Go.Proofs
open Go.RowKit Go.Shelf Go.Vc
set_option maxHeartbeats 4000000 in
set_option maxRecDepth 100000 in
/-- There is room, i < len(s): in place. -/
theorem ins_shift (b off n c i vb voff vc : Nat) (cs vs : List Value) (w : World) (hi : i < n) (hroom : n + 1 ≤ c) (hc63 : c ≤ 9223372036854775807) (hvb : vb ≠ b)
    (hcl : cs.length = n * 2) (hvl : vs.length = 2)
    (hcs : ∀ j v, cs[j]? = some v → w.cell? ⟨b, off + j, none⟩ = some v) (hsp : ∀ j, j < (n + 1) * 2 → (w.cell? ⟨b, off + j, none⟩).isSome = true) (hfz : ∀ j, j < (n + 1) * 2 → w.frozen? ⟨b, off + j, none⟩ = false)
    (hvs : ∀ j v, vs[j]? = some v → w.cell? ⟨vb, voff + j, none⟩ = some v) (h1c : ∀ v ∈ cs, v.oneCell' = true) (h1v : ∀ v ∈ vs, v.oneCell' = true)
    (tA tB : TypeId) (kA kB : Nat) (hsa : w.shape? vb = some (tA, kA)) (hsb : w.shape? b = some (tB, kB)) (hkB : kB ≠ 0) (hfa : w.frozen? ⟨vb, voff, none⟩ = false) (hfe : w.frozen? ⟨vb, kA, none⟩ = false) :
    Calls Try.prog 25 #[.slice (some ⟨b, off, none⟩) n c, .int .i64 i, .slice (some ⟨vb, voff, none⟩) 1 vc] w fun e w' =>
      e = .returned (.slice (some ⟨b, off, none⟩) (n + 1) c) ∧ w' = (w.drew.setCells b (off + (i + 1) * 2) (cs.drop (i * 2))).setCells b (off + i * 2) vs := by
  have hz2 : ¬ ((i : Int) = (n : Int)) := by omega
  obtain ⟨i0, hi0, hz0, hz1⟩ : ∃ i0, Try.prog.info? 24 = some i0 ∧ i0.size = 2 ∧ True := ⟨(Try.prog.info? 24).get (by kernel_rfl), by kernel_rfl, by kernel_rfl, trivial⟩
  have hov : ∀ lb cb, (callFunc 28 #[.slice (some ⟨vb, voff, none⟩) 1 vc, .slice (some ⟨b, off + (i + 1) * 2, none⟩) lb cb]).run Try.prog w = .ok (.value (.bool false)) w := fun lb cb => by
    rw [run_callFunc_extern Try.func28 (by kernel_rfl) (by kernel_rfl) (by kernel_rfl) (e := Extern.SlicesOverlaps.overlaps #[22, 22] #[4]) (by kernel_rfl),
      Lib.run_overlaps_apart w 22 4 24 Try.underlying22 2 Try.sizeOf24 ⟨vb, voff, none⟩ ⟨b, off + (i + 1) * 2, none⟩ 1 vc lb cb hvb tA tB kA kB hsa hsb hkB hfa hfe]
    rfl
  have hdl : (cs.drop (i * 2)).length = (n - i) * 2 := by rw [List.length_drop, hcl]; omega
  have hw1 : IntKind.i64.wrap ((i : Int) + 1) = (i : Int) + 1 := by rw [IntKind.wrap_i64]; omega
  have hin : i ≤ n := by omega
  have hmin : Nat.min (n + 1 - i) (n - i) = n - i := by simp only [Nat.min_def]; split <;> omega
  have hmin2 : ∀ d, 1 ≤ d → Nat.min 1 d = 1 := fun d hd => by simp only [Nat.min_def]; split <;> omega
  have hcp1 : ∀ ty dc sc, (Builtin.copy_ #[22, 22] ty #[.slice (some ⟨b, off + (i + 1) * 2, none⟩) (n - i) dc, .slice (some ⟨b, off + i * 2, none⟩) (n + 1 - i) sc]).run Try.prog w.drew = .ok (goInt ((n - i : Nat) : Int)) (w.drew.setCells b (off + (i + 1) * 2) (cs.drop (i * 2))) := fun ty dc sc => by
    rw [run_copy_k (P := Try.prog) w.drew 22 22 ty 24 i0 b (off + (i + 1) * 2) (n - i) dc ⟨b, off + i * 2, none⟩ (n + 1 - i) sc (cs.drop (i * 2)) Try.underlying22 hi0 (by rw [hdl, hmin, hz0])
      (fun j v hj => by rw [Addr.add_lit, Nat.add_assoc]; exact hcs (i * 2 + j) v (by rwa [List.getElem?_drop] at hj))
      (fun j hj => by rw [Nat.add_assoc]; exact hsp _ (by omega)) (fun j hj => by rw [Nat.add_assoc]; exact hfz _ (by omega)) (fun v hv => h1c v (List.mem_of_mem_drop hv)), hmin]
  obtain ⟨W1, hW1⟩ : ∃ W1, W1 = w.drew.setCells b (off + (i + 1) * 2) (cs.drop (i * 2)) := ⟨_, rfl⟩
  have hsp1 : ∀ k, k < (n + 1) * 2 → (W1.cell? ⟨b, off + k, none⟩).isSome = true := fun k hk => by
    rw [hW1]
    exact isSome_setCells b _ _ _ (fun j hj => by rw [Nat.add_assoc]; exact hsp _ (by omega)) _ (hsp k hk)
  have hcp2 : ∀ (W : World), (∀ x, W.cell? x = W1.cell? x) → (∀ x, W.frozen? x = W1.frozen? x) → ∀ ty dc, (Builtin.copy_ #[22, 22] ty #[.slice (some ⟨b, off + i * 2, none⟩) (n + 1 - i) dc, .slice (some ⟨vb, voff, none⟩) 1 vc]).run Try.prog W = .ok (goInt ((1 : Nat) : Int)) (W.setCells b (off + i * 2) vs) := fun W hWc hWf ty dc => by
    rw [run_copy_k (P := Try.prog) W 22 22 ty 24 i0 b (off + i * 2) (n + 1 - i) dc ⟨vb, voff, none⟩ 1 vc vs Try.underlying22 hi0 (by rw [hvl, hz0, hmin2 _ (by omega)])
      (fun j v hj => by
        rw [Addr.add_lit, hWc, hW1, World.cell?_setCells_out b _ _ _ _ (fun h _ => absurd h hvb)]
        exact hvs j v hj)
      (fun j hj => by rw [hWc, Nat.add_assoc]; exact hsp1 _ (by omega)) (fun j hj => by rw [hWf, hW1, World.frozen?_setCells, Nat.add_assoc]; exact hfz _ (by omega)) h1v, hmin2 _ (by omega)]
  rw [← hW1] at hcp1
  have mixed : Try.prog.follows .mixedOrders = true := by kernel_rfl
  have u22 := run_underlying Try.underlying22
  have z24 := Try.sizeOf24
  have hb1 : (0 : Int) ≤ (i : Int) + 1 := by omega
  have htn : ((i : Int) + 1).toNat = i + 1 := by omega
  have hb2 : ¬ (c = i + 1) := by omega
  have hb3 : (i : Int) ≤ (n : Int) + 1 := by omega
  have hb4 : ¬ (c = i) := by omega
  have hb5 : (i : Int) + 1 ≤ (n : Int) + 1 := by omega
  go_enter Try.func25, Try.ntmps25
  go_wp2_with (simp only [hov])
  go_region_law_o (refine step_copy_runI rfl _ _ 22 22 rfl _ _ (by simp [Act.eval, Act.put]) (by simp [Act.eval, Act.put]) (hcp1 _ _ _) ?_)
  go_wp2_with (at_builtin; refine wpList_copy_runI _ rfl _ _ 22 22 rfl _ _ rfl rfl (hcp2 _ (fun _ => rfl) (fun _ => rfl) _ _) ?_)
  go_ret
  first | exact ⟨rfl, rfl⟩ | exact ⟨rfl, by rw [hW1]⟩
theorem span_info : ∃ i0, Try.prog.info? 24 = some i0 ∧ i0.size = 2 ∧ i0.bytes = 16 ∧ ∃ z, i0.zero = some z ∧ z.cells.size = 2 :=
  ⟨(Try.prog.info? 24).get (by kernel_rfl), by kernel_rfl, by kernel_rfl, by kernel_rfl, .agg #[.int .i64 0, .int .i64 0], by kernel_rfl, rfl⟩
set_option maxHeartbeats 4000000 in
set_option maxRecDepth 100000 in
/-- At the end, there is room: in place. -/
theorem ins_end_room (b off n c vb voff vc : Nat) (vs : List Value) (w : World) (hroom : n + 1 ≤ c) (hc63 : c ≤ 9223372036854775807) (hvl : vs.length = 2)
    (hsp : ∀ j, j < 2 → (w.cell? ⟨b, off + n * 2 + j, none⟩).isSome = true) (hfz : ∀ j, j < 2 → w.frozen? ⟨b, off + n * 2 + j, none⟩ = false)
    (hvs : ∀ j v, vs[j]? = some v → w.cell? ⟨vb, voff + j, none⟩ = some v) (h1v : ∀ v ∈ vs, v.oneCell' = true) :
    Calls Try.prog 25 #[.slice (some ⟨b, off, none⟩) n c, .int .i64 n, .slice (some ⟨vb, voff, none⟩) 1 vc] w fun e w' =>
      e = .returned (.slice (some ⟨b, off, none⟩) (n + 1) c) ∧ w' = w.setCells b (off + n * 2) vs := by
  obtain ⟨i0, hi0, hz0, _⟩ := span_info
  have hst := run_storeCells_cells (P := Try.prog) b (off + n * 2) vs 0 w (fun j hj => by simpa using hsp j (by omega)) (fun j hj => by simpa using hfz j (by omega)) h1v
  have hrun : ∀ ty, (Builtin.append_ #[22, 22] ty #[.slice (some ⟨b, off, none⟩) n c, .slice (some ⟨vb, voff, none⟩) 1 vc]).run Try.prog w = .ok (.slice (some ⟨b, off, none⟩) (n + 1) c) (w.setCells b (off + n * 2) vs) := fun ty => by
    rw [run_append_in (P := Try.prog) (w := w) (base := some ⟨b, off, none⟩) (sLen := n) (sCap := c) (n := 1) (news := vs) (i := i0) (t := 22) (u := 22) rfl rfl rfl rfl Try.underlying22 Try.underlying22 (.inl ⟨_, rfl⟩) hi0 (by simp [Builtin.lenOf])
      (run_firstCells_some (P := Try.prog) w i0.size 1 ⟨vb, voff, none⟩ 1 vc vs (by rw [hvl, hz0]) fun j v hj => by rw [Addr.add_lit]; exact hvs j v hj) hroom]
    simp only [Addr.add_lit, hz0]
    simp only [Nat.add_zero] at hst
    rw [hst]; rfl
  go_enter Try.func25, Try.ntmps25
  go_wp2_with (at_builtin; refine Lib.wpList_append_run _ rfl _ _ _ _ rfl _ _ rfl rfl _ _ (hrun _) ?_)
  go_ret
  exact ⟨rfl, rfl⟩
set_option maxHeartbeats 4000000 in
set_option maxRecDepth 100000 in
/-- At the end, no room: a new row. -/
theorem ins_end_grow (base : Option Addr) (n c vb voff vc : Nat) (cs vs : List Value) (w : World) (hroom : c < n + 1) (hnc : n ≤ c) (hbig : (n + 1) * 16 ≤ 140737488355328) (hcl : cs.length = n * 2) (hvl : vs.length = 2) (hnil : base = none → n = 0)
    (hcs : ∀ a, base = some a → ∀ j v, cs[j]? = some v → w.cell? (a.add j) = some v)
    (hvs : ∀ j v, vs[j]? = some v → w.cell? ⟨vb, voff + j, none⟩ = some v) (h1v : ∀ v ∈ vs, v.oneCell' = true) :
    Calls Try.prog 25 #[.slice base n c, .int .i64 n, .slice (some ⟨vb, voff, none⟩) 1 vc] w fun e w' =>
      ∃ (cap : Nat) (rest : List Value), e = .returned (.slice (some ⟨w.heap.size, 0, none⟩) (n + 1) cap) ∧ n + 1 ≤ cap ∧ rest.length = (cap - (n + 1)) * 2 ∧ w'.heap = w.heap.push (.cells (cs ++ vs ++ rest).toArray 24 (0, 0)) ∧ w'.os = w.os ∧ w'.output = w.output ∧ w'.tape = w.tape := by
  obtain ⟨i0, hi0, hz0, hby, z, hz, hzc⟩ := span_info
  have hcell : ∀ w' : World, w'.heap = w.heap → ∀ a : Addr, w'.cell? a = w.cell? a := fun w' hw a => by unfold World.cell?; rw [hw]
  have hold : ∀ w' : World, w'.heap = w.heap → (Builtin.firstCells i0.size n (.slice base n c)).run Try.prog w' = .ok cs.toArray w' := fun w' hw => by
    cases base with
    | none =>
      have h0 := hnil rfl
      subst h0
      have : cs = [] := List.eq_nil_of_length_eq_zero (by omega)
      subst this
      simp [Builtin.firstCells]
    | some a => exact run_firstCells_some (P := Try.prog) w' i0.size n a n c cs (by rw [hcl, hz0]) fun j v hj => by rw [hcell w' hw]; exact hcs a rfl j v hj
  obtain ⟨w1, rest, cap, k1, k2, k3, k4, k5, k6, k7⟩ := run_append_new (P := Try.prog) (w := w) (ats := #[22, 22]) (ty := 22) (args := #[.slice base n c, .slice (some ⟨vb, voff, none⟩) 1 vc]) (base := base) (sLen := n) (sCap := c) (n := 1) (olds := cs) (news := vs) (i := i0) (z := z) (t := 22) (u := 22) rfl rfl rfl rfl Try.underlying22 Try.underlying22 (.inl ⟨_, rfl⟩) hi0 hz (by rw [hby]; decide)
    (fun w' => by simp [Builtin.lenOf]) (fun w' hw => run_firstCells_some (P := Try.prog) w' i0.size 1 ⟨vb, voff, none⟩ 1 vc vs (by rw [hvl, hz0]) fun j v hj => by rw [Addr.add_lit, hcell w' hw]; exact hvs j v hj) hold hroom (by rw [hby]; exact hbig)
  go_enter Try.func25, Try.ntmps25
  go_wp2_with (at_builtin; refine Lib.wpList_append_run _ rfl _ _ _ _ rfl _ _ rfl rfl _ _ k3 ?_)
  all_goals (go_ret; exact ⟨cap, rest, rfl, k1, by rw [k2, hzc], k4, k5, k6, k7.1⟩)
end Go.Proofs
