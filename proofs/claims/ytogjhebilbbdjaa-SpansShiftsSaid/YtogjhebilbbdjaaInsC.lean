/- One span put into a row of spans, inside, where there is no room: the library's Insert, walked. Conditions: none. -/
import Derived.Test.YtogjhebilbbdjaaInsB
import Derived.Lib.AppendZerosOnto
import Derived.Lib.Builder
set_option linter.unusedVariables false
set_option linter.unusedSimpArgs false
namespace Go.Proofs
open Go.RowKit Go.Shelf Go.Vc
set_option maxHeartbeats 4000000 in
set_option maxRecDepth 100000 in
/-- Inside, no room: a new row. -/
theorem ins_grow (b off n c i vb voff vc : Nat) (cs vs : List Value) (w : World) (hi : i < n) (hroom : c < n + 1) (hnc : n ≤ c) (hbig : (n + 1) * 16 ≤ 140737488) (hcl : cs.length = n * 2) (hvl : vs.length = 2) (hb : b < w.heap.size) (hvb : vb < w.heap.size)
    (hcs : ∀ j v, cs[j]? = some v → w.cell? ⟨b, off + j, none⟩ = some v) (hvs : ∀ j v, vs[j]? = some v → w.cell? ⟨vb, voff + j, none⟩ = some v) (h1c : ∀ v ∈ cs, v.oneCell' = true) (h1v : ∀ v ∈ vs, v.oneCell' = true) :
    Calls Try.prog 25 #[.slice (some ⟨b, off, none⟩) n c, .int .i64 i, .slice (some ⟨vb, voff, none⟩) 1 vc] w fun e w' =>
      ∃ (cap : Nat) (row : Array Value), e = .returned (.slice (some ⟨w.heap.size, 0, none⟩) (n + 1) cap) ∧ n + 1 ≤ cap ∧ row.size = cap * 2 ∧ w' = (((w.drew.alloc (.cells row 24)).setCells w.heap.size (i * 2) vs).drew).setCells w.heap.size ((i + 1) * 2) (cs.drop (i * 2)) ∧ row.toList.take (i * 2) = cs.take (i * 2) := by
  obtain ⟨i0, hi0, hz0, hby, z, hz, hzc⟩ := span_info
  have htl : (cs.take (i * 2)).length = i * 2 := by rw [List.length_take]; omega
  have hap := Lib.run_append_grow_zeros (P := Try.prog) w 22 3 22 24 i0 z .i64 .i64 Try.underlying22 Try.underlying3 hi0 hz (some ⟨b, off, none⟩) i c (cs.take (i * 2))
    (run_firstCells_some (P := Try.prog) w.drew i0.size i ⟨b, off, none⟩ i c (cs.take (i * 2)) (by rw [htl, hz0]) fun j v hj => by
      rw [Addr.add_lit]
      exact hcs j v (by rw [List.getElem?_take] at hj; split at hj <;> simp_all))
    (n + 1 - i) (by omega) (by rw [hz0]; decide) (by omega) (by omega) (by rw [hby]; omega) (by rw [hby]; have := growslice_fits (bytes := 16) (show c < i + (n + 1 - i) by omega) (by omega); omega)
  rw [show i + (n + 1 - i) = n + 1 by omega] at hap
  generalize hcap : grownCap w (n + 1) c 24 = cap at hap
  have hcg : n + 1 ≤ cap := by rw [← hcap]; exact grownCap_ge _ _ _ _
  generalize hrow : (cs.take (i * 2)).toArray ++ Builtin.zeroCells z.cells (n + 1 - i) ++ Builtin.zeroCells z.cells (cap - (n + 1)) = row at hap
  have hrs : row.size = cap * 2 := by
    rw [← hrow]
    simp only [Array.size_append, List.size_toArray, htl, size_zeroCells, hzc]
    omega
  have hrt : row.toList.take (i * 2) = cs.take (i * 2) := by
    rw [← hrow]
    simp only [Array.toList_append, List.append_assoc]
    rw [List.take_append_of_le_length (by rw [htl]; exact Nat.le_refl _), List.take_of_length_le (by rw [htl]; exact Nat.le_refl _)]
  have hdl : (cs.drop (i * 2)).length = (n - i) * 2 := by rw [List.length_drop, hcl]; omega
  have hmin1 : Nat.min 1 (n + 1 - i) = 1 := by simp only [Nat.min_def]; split <;> omega
  have hmin2 : Nat.min (n - i) (n - i) = n - i := by simp only [Nat.min_def]; split <;> omega
  obtain ⟨G, hGe⟩ : ∃ G, G = w.heap.size := ⟨_, rfl⟩
  obtain ⟨W1, hW1⟩ : ∃ W1, W1 = w.drew.alloc (.cells row 24) := ⟨_, rfl⟩
  have hd : w.drew.heap = w.heap := rfl
  have hG : W1.heap[G]? = some (.cells row 24 (0, 0)) := by
    rw [hW1, hGe]; simp only [World.alloc]; exact Array.getElem?_push_size
  have hcl1 : ∀ a : Addr, a.block < G → W1.cell? a = w.cell? a := fun a ha => by
    rw [hW1]
    exact World.cell?_of_block (Below.heap_alloc w.drew _ a.block (by rw [hGe] at ha; exact ha))
  have hsp1 : ∀ j, j < cap * 2 → (W1.cell? ⟨G, j, none⟩).isSome = true := fun j hj => by
    rw [Lib.cell_of_heap hG]; simp [hrs, hj]
  have hfz1 : ∀ j, W1.frozen? ⟨G, j, none⟩ = false := fun j => Lib.frozen_of_heap hG j
  have hcpA : ∀ ty dc, (Builtin.copy_ #[22, 22] ty #[.slice (some ⟨G, i * 2, none⟩) (n + 1 - i) dc, .slice (some ⟨vb, voff, none⟩) 1 vc]).run Try.prog W1 = .ok (goInt ((1 : Nat) : Int)) (W1.setCells G (i * 2) vs) := fun ty dc => by
    rw [run_copy_k (P := Try.prog) W1 22 22 ty 24 i0 G (i * 2) (n + 1 - i) dc ⟨vb, voff, none⟩ 1 vc vs Try.underlying22 hi0 (by rw [hvl, hz0, hmin1])
      (fun j v hj => by rw [Addr.add_lit, hcl1 _ (by rw [hGe]; exact hvb)]; exact hvs j v hj)
      (fun j hj => hsp1 _ (by omega)) (fun j hj => hfz1 _) h1v, hmin1]
  obtain ⟨W2, hW2⟩ : ∃ W2, W2 = W1.setCells G (i * 2) vs := ⟨_, rfl⟩
  have hsp2 : ∀ k, k < cap * 2 → (W2.cell? ⟨G, k, none⟩).isSome = true := fun k hk => by
    rw [hW2]
    exact isSome_setCells G _ _ _ (fun j hj => hsp1 _ (by omega)) _ (hsp1 k hk)
  have hcpB : ∀ (W : World), (∀ x, W.cell? x = W2.cell? x) → (∀ x, W.frozen? x = W2.frozen? x) → ∀ ty dc sc, (Builtin.copy_ #[22, 22] ty #[.slice (some ⟨G, (i + 1) * 2, none⟩) (n - i) dc, .slice (some ⟨b, off + i * 2, none⟩) (n - i) sc]).run Try.prog W = .ok (goInt ((n - i : Nat) : Int)) (W.setCells G ((i + 1) * 2) (cs.drop (i * 2))) := fun W hWc hWf ty dc sc => by
    rw [run_copy_k (P := Try.prog) W 22 22 ty 24 i0 G ((i + 1) * 2) (n - i) dc ⟨b, off + i * 2, none⟩ (n - i) sc (cs.drop (i * 2)) Try.underlying22 hi0 (by rw [hdl, hmin2, hz0])
      (fun j v hj => by
        rw [Addr.add_lit, hWc, hW2, World.cell?_setCells_out G _ _ _ _ (fun h _ => absurd h (by show b ≠ G; omega)), hcl1 _ (by rw [hGe]; exact hb), Nat.add_assoc]
        exact hcs (i * 2 + j) v (by rwa [List.getElem?_drop] at hj))
      (fun j hj => by rw [hWc]; exact hsp2 _ (by omega)) (fun j hj => by rw [hWf, hW2, World.frozen?_setCells]; exact hfz1 _) (fun v hv => h1c v (List.mem_of_mem_drop hv)), hmin2]
  rw [← hW1, ← hGe] at hap
  rw [← hW2] at hcpA
  have hE1 : ∀ x, W2.drew.cell? x = W2.cell? x := fun _ => rfl
  have hE2 : ∀ x, W2.drew.frozen? x = W2.frozen? x := fun _ => rfl
  have mixed : Try.prog.follows .mixedOrders = true := by kernel_rfl
  have u22 := run_underlying Try.underlying22
  have z24 := Try.sizeOf24
  have hw1 : IntKind.i64.wrap ((i : Int) + 1) = (i : Int) + 1 := by rw [IntKind.wrap_i64]; omega
  have hb1 : (0 : Int) ≤ (i : Int) + 1 := by omega
  have htn : ((i : Int) + 1).toNat = i + 1 := by omega
  have hz2 : ¬ ((i : Int) = (n : Int)) := by omega
  have hin : i ≤ n := by omega
  have hsub : (n : Int) + 1 - (i : Int) = ((n + 1 - i : Nat) : Int) := by omega
  have hb3 : (i : Int) ≤ (n : Int) + 1 := by omega
  have hb5 : (i : Int) + 1 ≤ (n : Int) + 1 := by omega
  have hb6 : ¬ (cap = i) := by omega
  have hb7 : ¬ (cap = i + 1) := by omega
  have hb8 : ¬ (c = i) := by omega
  refine (show Calls Try.prog 25 #[.slice (some ⟨b, off, none⟩) n c, .int .i64 i, .slice (some ⟨vb, voff, none⟩) 1 vc] w fun e w' => e = .returned (.slice (some ⟨G, 0, none⟩) (n + 1) cap) ∧ w' = W2.drew.setCells G ((i + 1) * 2) (cs.drop (i * 2)) from ?_).mono ?_
  rotate_left
  · rintro e w' ⟨rfl, rfl⟩
    exact ⟨cap, row, by rw [hGe], hcg, hrs, by rw [hW2, hW1, hGe], hrt⟩
  clear hGe hW1 hW2 hrow hcap hG
  go_enter Try.func25, Try.ntmps25
  go_wp2_with (first
    | (at_builtin; refine Lib.wpList_append_run _ rfl _ _ _ _ rfl _ _ rfl rfl _ _ hap ?_)
    | (at_builtin; refine wpList_copy_runI _ rfl _ _ 22 22 rfl _ _ rfl rfl (hcpA _ _) ?_))
  go_region_law_o (refine step_copy_runI rfl _ _ 22 22 rfl (.slice (some ⟨G, (i + 1) * 2, none⟩) (n - i) (cap - (i + 1))) (.slice (some ⟨b, off + i * 2, none⟩) (n - i) (c - i)) (by simp [Act.eval, Act.put]) (by simp [Act.eval, Act.put]) (hcpB _ hE1 hE2 3 (cap - (i + 1)) (c - i)) ?_)
  go_wp2
  go_ret
  exact ⟨rfl, rfl⟩
end Go.Proofs
