/- Where a span is put into a row of spans: the library's binary search, walked. Conditions: none. -/
import Derived.Test.YtakkifkpihdcnaaDoorProg
import Derived.Test.YtakkifkpihdcnaaDoorVyR
import Derived.Test.YtakkifkpihdcnaaDoorVpRJ
import Derived.WalkKit
import Derived.Shelf.RegionOpenPlain
import Derived.Lib.Walk
import Derived.Laws.Shifts
import Derived.Shelf.SlSortCmp.QuietGrown
import Derived.Deep.LoopGhost
import Derived.Deep.Draws
import Derived.Sort.Walk0
import Derived.Lib.Overlaps
import Derived.Laws.IdiomCopy
import Derived.Laws.Externs
import Derived.Shelf.Spec.SlicesInsert
import Derived.Lib.AppendZerosOnto
import Derived.Lib.Builder
import Derived.Lib.Hide
import Derived.Deep.RegionWith
set_option linter.unusedVariables false
set_option linter.unusedSimpArgs false
namespace Go.Proofs
open Go.RowKit Go.Shelf
/-- A row of spans in memory. -/
def SpAt (w : World) (b off : Nat) (l : List (Int × Int)) : Prop := ∀ (j : Nat) (s : Int × Int), l[j]? = some s → w.cell? ⟨b, off + j * 2, none⟩ = some (.int .i64 s.1) ∧ w.cell? ⟨b, off + j * 2 + 1, none⟩ = some (.int .i64 s.2)
theorem SpAt.below {n : Nat} {w w' : World} {b off : Nat} {l : List (Int × Int)} (h : SpAt w b off l) (hb : Below n w w') (hn : b < n) : SpAt w' b off l := fun j s hj => by
  have e : ∀ o, w'.cell? ⟨b, o, none⟩ = w.cell? ⟨b, o, none⟩ := fun o => World.cell?_of_block (a := ⟨b, o, none⟩) (hb.block b hn)
  rw [e, e]; exact h j s hj
set_option maxHeartbeats 2000000 in
set_option maxRecDepth 100000 in
theorem by_lo (a c lo : Int) (ha : -1000000 ≤ a ∧ a ≤ 1000000) (hl : -1000000 ≤ lo ∧ lo ≤ 1000000) (w : World) : Calls Tryd.prog 40 #[.agg #[.int .i64 a, .int .i64 c], .int .i64 lo] w fun e w' => e = .returned (.int .i64 (a - lo)) ∧ Below w.heap.size w w' := by
  have hw : IntKind.i64.wrap (a - lo) = a - lo := by rw [IntKind.wrap_i64]; omega
  go_enter Tryd.func40, Tryd.ntmps40
  go_wp2
  go_ret
  refine ⟨rfl, ?_⟩
  exact (Below.refl _ w).alloc (Nat.le_refl _) _
set_option maxHeartbeats 4000000 in
set_option maxRecDepth 100000 in
theorem bsearch (l : List (Int × Int)) (lo : Int) (hlo : -1000000 ≤ lo ∧ lo ≤ 1000000) (hl : ∀ s ∈ l, -1000000 ≤ s.1 ∧ s.1 ≤ 1000000) (hn : l.length ≤ 1000000) (asc : ∀ i j : Nat, i ≤ j → ∀ s t, l[i]? = some s → l[j]? = some t → s.1 ≤ t.1)
    (b off c : Nat) (w : World) (hb : b < w.heap.size) (hs : SpAt w b off l) :
    Calls Tryd.prog 39 #[.slice (some ⟨b, off, none⟩) l.length c, .int .i64 lo, .func (.func 40) #[] #[]] w fun e w' => ∃ (i : Nat) (f : Bool), e = .returned (.tuple #[.int .i64 i, .bool f]) ∧ i ≤ l.length ∧ (∀ j s, j < i → l[j]? = some s → s.1 < lo) ∧ (∀ j s, i ≤ j → l[j]? = some s → lo ≤ s.1) ∧ Below w.heap.size w w' := by
  go_enter Tryd.func39, Tryd.ntmps39
  go_wp2
  go_loopw [9, 10] (fun vi vj wr => ∃ i j : Nat, i ≤ j ∧ j ≤ l.length ∧ vi = .int .i64 i ∧ vj = .int .i64 j ∧ (∀ k s, k < i → l[k]? = some s → s.1 < lo) ∧ (∀ k s, j ≤ k → l[k]? = some s → lo ≤ s.1) ∧ Below w.heap.size w wr)
    (fun i j _ => (intOf j).toNat - (intOf i).toNat)
  case atStart => exact ⟨0, l.length, Nat.zero_le _, Nat.le_refl _, rfl, rfl, fun k s h => absurd h (Nat.not_lt_zero _), fun k s h q => (by rw [List.getElem?_eq_none h] at q; cases q), Below.refl _ _⟩
  case round =>
    obtain ⟨i, j, hij, hj, rfl, rfl, h1, h2, hbw⟩ := hrel
    have hsr := hs.below hbw hb
    by_cases hlt : i < j
    · obtain ⟨h, hh⟩ : ∃ h : Nat, h = (i + j) / 2 := ⟨_, rfl⟩
      have hm : i ≤ h ∧ h < j := by omega
      obtain ⟨s, hsx⟩ : ∃ s, l[h]? = some s := ⟨_, List.getElem?_eq_getElem (by omega)⟩
      obtain ⟨c0, c1⟩ := hsr h s hsx
      have hsl := hl s (List.mem_of_getElem? hsx)
      have hcl := fun W => by_lo s.1 s.2 lo hsl hlo W
      have he : ((i : Int) + (j : Int)) / 2 = (h : Int) := by omega
      have hsf : Op.shift .shr .u64 ((i : Int) + (j : Int)) .u64 1 = pure (.int .u64 (h : Int)) := by
        rw [shift_shr_any _ _ _ _ (by decide), ← he]; rfl
      have hm1 : i ≤ h := hm.1
      have hm2 : h < l.length := by omega
      have hm3 : h < j := hm.2
      have hcv : IntKind.i64.wrap (h : Int) = h := by rw [IntKind.wrap_i64]; omega
      have A1 : Hid _ := asc
      have A2 : Hid _ := h1
      have A3 : Hid _ := h2
      have A4 : Hid _ := hsx
      clear asc h1 h2 hsx hm hh
      by_cases hc : s.1 - lo < 0
      · go_wp2_with (go_at_call 40; refine (hcl _).mono ?_; rintro e w' ⟨rfl, hb1⟩)
        go_roundw
        case rel =>
          refine ⟨h + 1, j, by omega, hj, by simp, rfl, fun k u hk hu => ?_, A3.out, hbw.trans (hb1.mono hbw.size)⟩
          have := A1.out k h (by omega) u s hu A4.out
          omega
        case measure => simp [intOf]; omega
      · go_wp2_with (go_at_call 40; refine (hcl _).mono ?_; rintro e w' ⟨rfl, hb1⟩)
        go_roundw
        case rel =>
          refine ⟨i, h, by omega, by omega, rfl, rfl, A2.out, fun k u hk hu => ?_, hbw.trans (hb1.mono hbw.size)⟩
          have := A1.out h k hk s u A4.out hu
          omega
        case measure => simp [intOf]; omega
    · obtain rfl : i = j := by omega
      have A1 : Hid _ := asc
      have A2 : Hid _ := h1
      have A3 : Hid _ := h2
      clear asc h1 h2
      by_cases hin : i < l.length
      · obtain ⟨s, hsx⟩ : ∃ s, l[i]? = some s := ⟨_, List.getElem?_eq_getElem hin⟩
        obtain ⟨c0, c1⟩ := hsr i s hsx
        have hsl := hl s (List.mem_of_getElem? hsx)
        have hcl := fun W => by_lo s.1 s.2 lo hsl hlo W
        clear hsx
        go_wp2_with (go_at_call 40; refine (hcl _).mono ?_; rintro e w' ⟨rfl, hb1⟩)
        go_ret2
        exact ⟨i, _, rfl, hj, A2.out, A3.out, hbw.trans (hb1.mono hbw.size)⟩
      · go_wp2
        go_ret2
        exact ⟨i, _, rfl, hj, A2.out, A3.out, hbw⟩
end Go.Proofs
set_option linter.unusedVariables false
set_option linter.unusedSimpArgs false
namespace Go.Proofs
open Go.RowKit Go.Shelf Go.Vc
set_option maxHeartbeats 4000000 in
set_option maxRecDepth 100000 in
/-- There is room, i < len(s): in place. -/
theorem ins_shift (b off n c i vb voff vc : Nat) (cs vs : List Value) (w : World) (hi : i < n) (hroom : n + 1 ≤ c) (hc63 : c ≤ 9223372036854775807) (hvb : vb ≠ b)
    (hcl : cs.length = n * 2) (hvl : vs.length = 2)
    (hcs : ∀ j v, cs[j]? = some v → w.cell? ⟨b, off + j, none⟩ = some v) (hsp : ∀ j, j < (n + 1) * 2 → (w.cell? ⟨b, off + j, none⟩).isSome = true) (hfz : ∀ j, j < (n + 1) * 2 → w.frozen? ⟨b, off + j, none⟩ = false)
    (hvs : ∀ j v, vs[j]? = some v → w.cell? ⟨vb, voff + j, none⟩ = some v) (h1c : ∀ v ∈ cs, v.oneCell' = true) (h1v : ∀ v ∈ vs, v.oneCell' = true)
    (tA tB : TypeId) (kA kB : Nat) (hsa : w.shape? vb = some (tA, kA)) (hsb : w.shape? b = some (tB, kB)) (hkB : kB ≠ 0) (hfa : w.frozen? ⟨vb, voff, none⟩ = false) (hfe : w.frozen? ⟨vb, kA, none⟩ = false) :
    Calls Tryd.prog 41 #[.slice (some ⟨b, off, none⟩) n c, .int .i64 i, .slice (some ⟨vb, voff, none⟩) 1 vc] w fun e w' =>
      e = .returned (.slice (some ⟨b, off, none⟩) (n + 1) c) ∧ w' = (w.drew.setCells b (off + (i + 1) * 2) (cs.drop (i * 2))).setCells b (off + i * 2) vs := by
  have hz2 : ¬ ((i : Int) = (n : Int)) := by omega
  obtain ⟨i0, hi0, hz0, hz1⟩ : ∃ i0, Tryd.prog.info? 41 = some i0 ∧ i0.size = 2 ∧ True := ⟨(Tryd.prog.info? 41).get (by kernel_rfl), by kernel_rfl, by kernel_rfl, trivial⟩
  have hov : ∀ lb cb, (callFunc 47 #[.slice (some ⟨vb, voff, none⟩) 1 vc, .slice (some ⟨b, off + (i + 1) * 2, none⟩) lb cb]).run Tryd.prog w = .ok (.value (.bool false)) w := fun lb cb => by
    rw [run_callFunc_extern Tryd.func47 (by kernel_rfl) (by kernel_rfl) (by kernel_rfl) (e := Extern.SlicesOverlaps.overlaps #[37, 37] #[4]) (by kernel_rfl),
      Lib.run_overlaps_apart w 37 4 41 Tryd.underlying37 2 Tryd.sizeOf41 ⟨vb, voff, none⟩ ⟨b, off + (i + 1) * 2, none⟩ 1 vc lb cb hvb tA tB kA kB hsa hsb hkB hfa hfe]
    rfl
  have hdl : (cs.drop (i * 2)).length = (n - i) * 2 := by rw [List.length_drop, hcl]; omega
  have hw1 : IntKind.i64.wrap ((i : Int) + 1) = (i : Int) + 1 := by rw [IntKind.wrap_i64]; omega
  have hin : i ≤ n := by omega
  have hmin : Nat.min (n + 1 - i) (n - i) = n - i := by simp only [Nat.min_def]; split <;> omega
  have hmin2 : ∀ d, 1 ≤ d → Nat.min 1 d = 1 := fun d hd => by simp only [Nat.min_def]; split <;> omega
  have hcp1 : ∀ ty dc sc, (Builtin.copy_ #[37, 37] ty #[.slice (some ⟨b, off + (i + 1) * 2, none⟩) (n - i) dc, .slice (some ⟨b, off + i * 2, none⟩) (n + 1 - i) sc]).run Tryd.prog w.drew = .ok (goInt ((n - i : Nat) : Int)) (w.drew.setCells b (off + (i + 1) * 2) (cs.drop (i * 2))) := fun ty dc sc => by
    rw [run_copy_k (P := Tryd.prog) w.drew 37 37 ty 41 i0 b (off + (i + 1) * 2) (n - i) dc ⟨b, off + i * 2, none⟩ (n + 1 - i) sc (cs.drop (i * 2)) Tryd.underlying37 hi0 (by rw [hdl, hmin, hz0])
      (fun j v hj => by rw [Addr.add_lit, Nat.add_assoc]; exact hcs (i * 2 + j) v (by rwa [List.getElem?_drop] at hj))
      (fun j hj => by rw [Nat.add_assoc]; exact hsp _ (by omega)) (fun j hj => by rw [Nat.add_assoc]; exact hfz _ (by omega)) (fun v hv => h1c v (List.mem_of_mem_drop hv)), hmin]
  obtain ⟨W1, hW1⟩ : ∃ W1, W1 = w.drew.setCells b (off + (i + 1) * 2) (cs.drop (i * 2)) := ⟨_, rfl⟩
  have hsp1 : ∀ k, k < (n + 1) * 2 → (W1.cell? ⟨b, off + k, none⟩).isSome = true := fun k hk => by
    rw [hW1]
    exact isSome_setCells b _ _ _ (fun j hj => by rw [Nat.add_assoc]; exact hsp _ (by omega)) _ (hsp k hk)
  have hcp2 : ∀ (W : World), (∀ x, W.cell? x = W1.cell? x) → (∀ x, W.frozen? x = W1.frozen? x) → ∀ ty dc, (Builtin.copy_ #[37, 37] ty #[.slice (some ⟨b, off + i * 2, none⟩) (n + 1 - i) dc, .slice (some ⟨vb, voff, none⟩) 1 vc]).run Tryd.prog W = .ok (goInt ((1 : Nat) : Int)) (W.setCells b (off + i * 2) vs) := fun W hWc hWf ty dc => by
    rw [run_copy_k (P := Tryd.prog) W 37 37 ty 41 i0 b (off + i * 2) (n + 1 - i) dc ⟨vb, voff, none⟩ 1 vc vs Tryd.underlying37 hi0 (by rw [hvl, hz0, hmin2 _ (by omega)])
      (fun j v hj => by
        rw [Addr.add_lit, hWc, hW1, World.cell?_setCells_out b _ _ _ _ (fun h _ => absurd h hvb)]
        exact hvs j v hj)
      (fun j hj => by rw [hWc, Nat.add_assoc]; exact hsp1 _ (by omega)) (fun j hj => by rw [hWf, hW1, World.frozen?_setCells, Nat.add_assoc]; exact hfz _ (by omega)) h1v, hmin2 _ (by omega)]
  rw [← hW1] at hcp1
  have mixed : Tryd.prog.follows .mixedOrders = true := by kernel_rfl
  have u22 := run_underlying Tryd.underlying37
  have z24 := Tryd.sizeOf41
  have hb1 : (0 : Int) ≤ (i : Int) + 1 := by omega
  have htn : ((i : Int) + 1).toNat = i + 1 := by omega
  have hb2 : ¬ (c = i + 1) := by omega
  have hb3 : (i : Int) ≤ (n : Int) + 1 := by omega
  have hb4 : ¬ (c = i) := by omega
  have hb5 : (i : Int) + 1 ≤ (n : Int) + 1 := by omega
  go_enter Tryd.func41, Tryd.ntmps41
  go_wp2_with (simp only [hov])
  go_region_law_o (refine step_copy_runI rfl _ _ 37 37 rfl _ _ (by simp [Act.eval, Act.put]) (by simp [Act.eval, Act.put]) (hcp1 _ _ _) ?_)
  go_wp2_with (at_builtin; refine wpList_copy_runI _ rfl _ _ 37 37 rfl _ _ rfl rfl (hcp2 _ (fun _ => rfl) (fun _ => rfl) _ _) ?_)
  go_ret
  first | exact ⟨rfl, rfl⟩ | exact ⟨rfl, by rw [hW1]⟩
theorem span_info : ∃ i0, Tryd.prog.info? 41 = some i0 ∧ i0.size = 2 ∧ i0.bytes = 16 ∧ ∃ z, i0.zero = some z ∧ z.cells.size = 2 :=
  ⟨(Tryd.prog.info? 41).get (by kernel_rfl), by kernel_rfl, by kernel_rfl, by kernel_rfl, .agg #[.int .i64 0, .int .i64 0], by kernel_rfl, rfl⟩
set_option maxHeartbeats 4000000 in
set_option maxRecDepth 100000 in
/-- At the end, there is room: in place. -/
theorem ins_end_room (b off n c vb voff vc : Nat) (vs : List Value) (w : World) (hroom : n + 1 ≤ c) (hc63 : c ≤ 9223372036854775807) (hvl : vs.length = 2)
    (hsp : ∀ j, j < 2 → (w.cell? ⟨b, off + n * 2 + j, none⟩).isSome = true) (hfz : ∀ j, j < 2 → w.frozen? ⟨b, off + n * 2 + j, none⟩ = false)
    (hvs : ∀ j v, vs[j]? = some v → w.cell? ⟨vb, voff + j, none⟩ = some v) (h1v : ∀ v ∈ vs, v.oneCell' = true) :
    Calls Tryd.prog 41 #[.slice (some ⟨b, off, none⟩) n c, .int .i64 n, .slice (some ⟨vb, voff, none⟩) 1 vc] w fun e w' =>
      e = .returned (.slice (some ⟨b, off, none⟩) (n + 1) c) ∧ w' = w.setCells b (off + n * 2) vs := by
  obtain ⟨i0, hi0, hz0, _⟩ := span_info
  have hst := run_storeCells_cells (P := Tryd.prog) b (off + n * 2) vs 0 w (fun j hj => by simpa using hsp j (by omega)) (fun j hj => by simpa using hfz j (by omega)) h1v
  have hrun : ∀ ty, (Builtin.append_ #[37, 37] ty #[.slice (some ⟨b, off, none⟩) n c, .slice (some ⟨vb, voff, none⟩) 1 vc]).run Tryd.prog w = .ok (.slice (some ⟨b, off, none⟩) (n + 1) c) (w.setCells b (off + n * 2) vs) := fun ty => by
    rw [run_append_in (P := Tryd.prog) (w := w) (base := some ⟨b, off, none⟩) (sLen := n) (sCap := c) (n := 1) (news := vs) (i := i0) (t := 37) (u := 37) rfl rfl rfl rfl Tryd.underlying37 Tryd.underlying37 (.inl ⟨_, rfl⟩) hi0 (by simp [Builtin.lenOf])
      (run_firstCells_some (P := Tryd.prog) w i0.size 1 ⟨vb, voff, none⟩ 1 vc vs (by rw [hvl, hz0]) fun j v hj => by rw [Addr.add_lit]; exact hvs j v hj) hroom]
    simp only [Addr.add_lit, hz0]
    simp only [Nat.add_zero] at hst
    rw [hst]; rfl
  go_enter Tryd.func41, Tryd.ntmps41
  go_wp2_with (at_builtin; refine Lib.wpList_append_run _ rfl _ _ _ _ rfl _ _ rfl rfl _ _ (hrun _) ?_)
  go_ret
  exact ⟨rfl, rfl⟩
set_option maxHeartbeats 4000000 in
set_option maxRecDepth 100000 in
/-- At the end, no room: a new row. -/
theorem ins_end_grow (base : Option Addr) (n c vb voff vc : Nat) (cs vs : List Value) (w : World) (hroom : c < n + 1) (hnc : n ≤ c) (hbig : (n + 1) * 16 ≤ 140737488355328) (hcl : cs.length = n * 2) (hvl : vs.length = 2) (hnil : base = none → n = 0)
    (hcs : ∀ a, base = some a → ∀ j v, cs[j]? = some v → w.cell? (a.add j) = some v)
    (hvs : ∀ j v, vs[j]? = some v → w.cell? ⟨vb, voff + j, none⟩ = some v) (h1v : ∀ v ∈ vs, v.oneCell' = true) :
    Calls Tryd.prog 41 #[.slice base n c, .int .i64 n, .slice (some ⟨vb, voff, none⟩) 1 vc] w fun e w' =>
      ∃ (cap : Nat) (rest : List Value), e = .returned (.slice (some ⟨w.heap.size, 0, none⟩) (n + 1) cap) ∧ n + 1 ≤ cap ∧ rest.length = (cap - (n + 1)) * 2 ∧ w'.heap = w.heap.push (.cells (cs ++ vs ++ rest).toArray 41 (0, 0)) ∧ w'.os = w.os ∧ w'.output = w.output ∧ w'.tape = w.tape := by
  obtain ⟨i0, hi0, hz0, hby, z, hz, hzc⟩ := span_info
  have hcell : ∀ w' : World, w'.heap = w.heap → ∀ a : Addr, w'.cell? a = w.cell? a := fun w' hw a => by unfold World.cell?; rw [hw]
  have hold : ∀ w' : World, w'.heap = w.heap → (Builtin.firstCells i0.size n (.slice base n c)).run Tryd.prog w' = .ok cs.toArray w' := fun w' hw => by
    cases base with
    | none =>
      have h0 := hnil rfl
      subst h0
      have : cs = [] := List.eq_nil_of_length_eq_zero (by omega)
      subst this
      simp [Builtin.firstCells]
    | some a => exact run_firstCells_some (P := Tryd.prog) w' i0.size n a n c cs (by rw [hcl, hz0]) fun j v hj => by rw [hcell w' hw]; exact hcs a rfl j v hj
  obtain ⟨w1, rest, cap, k1, k2, k3, k4, k5, k6, k7⟩ := run_append_new (P := Tryd.prog) (w := w) (ats := #[37, 37]) (ty := 37) (args := #[.slice base n c, .slice (some ⟨vb, voff, none⟩) 1 vc]) (base := base) (sLen := n) (sCap := c) (n := 1) (olds := cs) (news := vs) (i := i0) (z := z) (t := 37) (u := 37) rfl rfl rfl rfl Tryd.underlying37 Tryd.underlying37 (.inl ⟨_, rfl⟩) hi0 hz (by rw [hby]; decide)
    (fun w' => by simp [Builtin.lenOf]) (fun w' hw => run_firstCells_some (P := Tryd.prog) w' i0.size 1 ⟨vb, voff, none⟩ 1 vc vs (by rw [hvl, hz0]) fun j v hj => by rw [Addr.add_lit, hcell w' hw]; exact hvs j v hj) hold hroom (by rw [hby]; exact hbig)
  go_enter Tryd.func41, Tryd.ntmps41
  go_wp2_with (at_builtin; refine Lib.wpList_append_run _ rfl _ _ _ _ rfl _ _ rfl rfl _ _ k3 ?_)
  all_goals (go_ret; exact ⟨cap, rest, rfl, k1, by rw [k2, hzc], k4, k5, k6, k7.1⟩)
end Go.Proofs
set_option linter.unusedVariables false
set_option linter.unusedSimpArgs false
namespace Go.Proofs
open Go.RowKit Go.Shelf Go.Vc
set_option maxHeartbeats 4000000 in
set_option maxRecDepth 100000 in
/-- Inside, no room: a new row. -/
theorem ins_grow (b off n c i vb voff vc : Nat) (cs vs : List Value) (w : World) (hi : i < n) (hroom : c < n + 1) (hnc : n ≤ c) (hbig : (n + 1) * 16 ≤ 140737488) (hcl : cs.length = n * 2) (hvl : vs.length = 2) (hb : b < w.heap.size) (hvb : vb < w.heap.size)
    (hcs : ∀ j v, cs[j]? = some v → w.cell? ⟨b, off + j, none⟩ = some v) (hvs : ∀ j v, vs[j]? = some v → w.cell? ⟨vb, voff + j, none⟩ = some v) (h1c : ∀ v ∈ cs, v.oneCell' = true) (h1v : ∀ v ∈ vs, v.oneCell' = true) :
    Calls Tryd.prog 41 #[.slice (some ⟨b, off, none⟩) n c, .int .i64 i, .slice (some ⟨vb, voff, none⟩) 1 vc] w fun e w' =>
      ∃ (cap : Nat) (row : Array Value), e = .returned (.slice (some ⟨w.heap.size, 0, none⟩) (n + 1) cap) ∧ n + 1 ≤ cap ∧ row.size = cap * 2 ∧ w' = (((w.drew.alloc (.cells row 41)).setCells w.heap.size (i * 2) vs).drew).setCells w.heap.size ((i + 1) * 2) (cs.drop (i * 2)) ∧ row.toList.take (i * 2) = cs.take (i * 2) := by
  obtain ⟨i0, hi0, hz0, hby, z, hz, hzc⟩ := span_info
  have htl : (cs.take (i * 2)).length = i * 2 := by rw [List.length_take]; omega
  have hap := Lib.run_append_grow_zeros (P := Tryd.prog) w 37 3 37 41 i0 z .i64 .i64 Tryd.underlying37 Tryd.underlying3 hi0 hz (some ⟨b, off, none⟩) i c (cs.take (i * 2))
    (run_firstCells_some (P := Tryd.prog) w.drew i0.size i ⟨b, off, none⟩ i c (cs.take (i * 2)) (by rw [htl, hz0]) fun j v hj => by
      rw [Addr.add_lit]
      exact hcs j v (by rw [List.getElem?_take] at hj; split at hj <;> simp_all))
    (n + 1 - i) (by omega) (by rw [hz0]; decide) (by omega) (by omega) (by rw [hby]; omega) (by rw [hby]; have := growslice_fits (bytes := 16) (show c < i + (n + 1 - i) by omega) (by omega); omega)
  rw [show i + (n + 1 - i) = n + 1 by omega] at hap
  generalize hcap : grownCap w (n + 1) c 41 = cap at hap
  have hcg : n + 1 ≤ cap := by rw [← hcap]; exact grownCap_ge _ _ _ _
  generalize hrow : (cs.take (i * 2)).toArray ++ Builtin.zeroCells z.cells (n + 1 - i) ++ Builtin.zeroCells z.cells (cap - (n + 1)) = row at hap
  have hrs : row.size = cap * 2 := by
    rw [← hrow]
    simp only [Array.size_append, List.size_toArray, htl, size_zeroCells, hzc]
    omega
  have hrt : row.toList.take (i * 2) = cs.take (i * 2) := by
    rw [← hrow]
    simp only [Array.toList_append, List.append_assoc]
    rw [List.take_append_of_le_length (by rw [htl]; exact Nat.le_refl _), List.take_of_length_le (by rw [htl]; exact Nat.le_refl _)]
  have hdl : (cs.drop (i * 2)).length = (n - i) * 2 := by rw [List.length_drop, hcl]; omega
  have hmin1 : Nat.min 1 (n + 1 - i) = 1 := by simp only [Nat.min_def]; split <;> omega
  have hmin2 : Nat.min (n - i) (n - i) = n - i := by simp only [Nat.min_def]; split <;> omega
  obtain ⟨G, hGe⟩ : ∃ G, G = w.heap.size := ⟨_, rfl⟩
  obtain ⟨W1, hW1⟩ : ∃ W1, W1 = w.drew.alloc (.cells row 41) := ⟨_, rfl⟩
  have hd : w.drew.heap = w.heap := rfl
  have hG : W1.heap[G]? = some (.cells row 41 (0, 0)) := by
    rw [hW1, hGe]; simp only [World.alloc]; exact Array.getElem?_push_size
  have hcl1 : ∀ a : Addr, a.block < G → W1.cell? a = w.cell? a := fun a ha => by
    rw [hW1]
    exact World.cell?_of_block (Below.heap_alloc w.drew _ a.block (by rw [hGe] at ha; exact ha))
  have hsp1 : ∀ j, j < cap * 2 → (W1.cell? ⟨G, j, none⟩).isSome = true := fun j hj => by
    rw [Lib.cell_of_heap hG]; simp [hrs, hj]
  have hfz1 : ∀ j, W1.frozen? ⟨G, j, none⟩ = false := fun j => Lib.frozen_of_heap hG j
  have hcpA : ∀ ty dc, (Builtin.copy_ #[37, 37] ty #[.slice (some ⟨G, i * 2, none⟩) (n + 1 - i) dc, .slice (some ⟨vb, voff, none⟩) 1 vc]).run Tryd.prog W1 = .ok (goInt ((1 : Nat) : Int)) (W1.setCells G (i * 2) vs) := fun ty dc => by
    rw [run_copy_k (P := Tryd.prog) W1 37 37 ty 41 i0 G (i * 2) (n + 1 - i) dc ⟨vb, voff, none⟩ 1 vc vs Tryd.underlying37 hi0 (by rw [hvl, hz0, hmin1])
      (fun j v hj => by rw [Addr.add_lit, hcl1 _ (by rw [hGe]; exact hvb)]; exact hvs j v hj)
      (fun j hj => hsp1 _ (by omega)) (fun j hj => hfz1 _) h1v, hmin1]
  obtain ⟨W2, hW2⟩ : ∃ W2, W2 = W1.setCells G (i * 2) vs := ⟨_, rfl⟩
  have hsp2 : ∀ k, k < cap * 2 → (W2.cell? ⟨G, k, none⟩).isSome = true := fun k hk => by
    rw [hW2]
    exact isSome_setCells G _ _ _ (fun j hj => hsp1 _ (by omega)) _ (hsp1 k hk)
  have hcpB : ∀ (W : World), (∀ x, W.cell? x = W2.cell? x) → (∀ x, W.frozen? x = W2.frozen? x) → ∀ ty dc sc, (Builtin.copy_ #[37, 37] ty #[.slice (some ⟨G, (i + 1) * 2, none⟩) (n - i) dc, .slice (some ⟨b, off + i * 2, none⟩) (n - i) sc]).run Tryd.prog W = .ok (goInt ((n - i : Nat) : Int)) (W.setCells G ((i + 1) * 2) (cs.drop (i * 2))) := fun W hWc hWf ty dc sc => by
    rw [run_copy_k (P := Tryd.prog) W 37 37 ty 41 i0 G ((i + 1) * 2) (n - i) dc ⟨b, off + i * 2, none⟩ (n - i) sc (cs.drop (i * 2)) Tryd.underlying37 hi0 (by rw [hdl, hmin2, hz0])
      (fun j v hj => by
        rw [Addr.add_lit, hWc, hW2, World.cell?_setCells_out G _ _ _ _ (fun h _ => absurd h (by show b ≠ G; omega)), hcl1 _ (by rw [hGe]; exact hb), Nat.add_assoc]
        exact hcs (i * 2 + j) v (by rwa [List.getElem?_drop] at hj))
      (fun j hj => by rw [hWc]; exact hsp2 _ (by omega)) (fun j hj => by rw [hWf, hW2, World.frozen?_setCells]; exact hfz1 _) (fun v hv => h1c v (List.mem_of_mem_drop hv)), hmin2]
  rw [← hW1, ← hGe] at hap
  rw [← hW2] at hcpA
  have hE1 : ∀ x, W2.drew.cell? x = W2.cell? x := fun _ => rfl
  have hE2 : ∀ x, W2.drew.frozen? x = W2.frozen? x := fun _ => rfl
  have mixed : Tryd.prog.follows .mixedOrders = true := by kernel_rfl
  have u22 := run_underlying Tryd.underlying37
  have z24 := Tryd.sizeOf41
  have hw1 : IntKind.i64.wrap ((i : Int) + 1) = (i : Int) + 1 := by rw [IntKind.wrap_i64]; omega
  have hb1 : (0 : Int) ≤ (i : Int) + 1 := by omega
  have htn : ((i : Int) + 1).toNat = i + 1 := by omega
  have hz2 : ¬ ((i : Int) = (n : Int)) := by omega
  have hin : i ≤ n := by omega
  have hsub : (n : Int) + 1 - (i : Int) = ((n + 1 - i : Nat) : Int) := by omega
  have hb3 : (i : Int) ≤ (n : Int) + 1 := by omega
  have hb5 : (i : Int) + 1 ≤ (n : Int) + 1 := by omega
  have hb6 : ¬ (cap = i) := by omega
  have hb7 : ¬ (cap = i + 1) := by omega
  have hb8 : ¬ (c = i) := by omega
  refine (show Calls Tryd.prog 41 #[.slice (some ⟨b, off, none⟩) n c, .int .i64 i, .slice (some ⟨vb, voff, none⟩) 1 vc] w fun e w' => e = .returned (.slice (some ⟨G, 0, none⟩) (n + 1) cap) ∧ w' = W2.drew.setCells G ((i + 1) * 2) (cs.drop (i * 2)) from ?_).mono ?_
  rotate_left
  · rintro e w' ⟨rfl, rfl⟩
    exact ⟨cap, row, by rw [hGe], hcg, hrs, by rw [hW2, hW1, hGe], hrt⟩
  clear hGe hW1 hW2 hrow hcap hG
  go_enter Tryd.func41, Tryd.ntmps41
  go_wp2_with (first
    | (at_builtin; refine Lib.wpList_append_run _ rfl _ _ _ _ rfl _ _ rfl rfl _ _ hap ?_)
    | (at_builtin; refine wpList_copy_runI _ rfl _ _ 37 37 rfl _ _ rfl rfl (hcpA _ _) ?_))
  go_region_law_o (refine step_copy_runI rfl _ _ 37 37 rfl (.slice (some ⟨G, (i + 1) * 2, none⟩) (n - i) (cap - (i + 1))) (.slice (some ⟨b, off + i * 2, none⟩) (n - i) (c - i)) (by simp [Act.eval, Act.put]) (by simp [Act.eval, Act.put]) (hcpB _ hE1 hE2 3 (cap - (i + 1)) (c - i)) ?_)
  go_wp2
  go_ret
  exact ⟨rfl, rfl⟩
end Go.Proofs
set_option linter.unusedVariables false
set_option linter.unusedSimpArgs false
namespace Go.Proofs
open Go.RowKit Go.Shelf Go.Vc Go.Fu
def flat (l : List (Int × Int)) : List Value := l.flatMap fun s => [Value.int .i64 s.1, Value.int .i64 s.2]
theorem flat_cons (s : Int × Int) (l : List (Int × Int)) : flat (s :: l) = [Value.int .i64 s.1, Value.int .i64 s.2] ++ flat l := by simp [flat]
theorem flat_app (l m : List (Int × Int)) : flat (l ++ m) = flat l ++ flat m := by simp [flat]
theorem flat_len : ∀ l : List (Int × Int), (flat l).length = l.length * 2
  | [] => rfl
  | s :: l => by rw [flat_cons, List.length_append, flat_len l]; simp; omega
theorem flat_take : ∀ (l : List (Int × Int)) (i : Nat), (flat l).take (i * 2) = flat (l.take i)
  | [], i => by simp [flat]
  | s :: l, 0 => by simp [flat]
  | s :: l, i + 1 => by
    rw [List.take_succ_cons, flat_cons, flat_cons, ← flat_take l i, show (i + 1) * 2 = i * 2 + 1 + 1 by omega]
    simp only [List.cons_append, List.nil_append, List.take_succ_cons]
theorem flat_drop : ∀ (l : List (Int × Int)) (i : Nat), (flat l).drop (i * 2) = flat (l.drop i)
  | [], i => by simp [flat]
  | s :: l, 0 => by simp [flat]
  | s :: l, i + 1 => by
    rw [List.drop_succ_cons, flat_cons, ← flat_drop l i, show (i + 1) * 2 = i * 2 + 1 + 1 by omega]
    simp only [List.cons_append, List.nil_append, List.drop_succ_cons]
theorem flat_one : ∀ l : List (Int × Int), ∀ v ∈ flat l, v.oneCell' = true := fun l v hv => by
  simp only [flat, List.mem_flatMap] at hv
  obtain ⟨s, _, h⟩ := hv
  simp at h
  rcases h with rfl | rfl <;> rfl
theorem flat_ins {l : List (Int × Int)} {i : Nat} {s : Int × Int} : flat (spInsert l i s) = (flat l).take (i * 2) ++ flat [s] ++ (flat l).drop (i * 2) := by
  unfold spInsert
  rw [flat_app, flat_app, flat_take, flat_drop, Int.toNat_natCast]
def FlAt (w : World) (b off : Nat) (F : List Value) : Prop := ∀ (j : Nat) (v : Value), F[j]? = some v → w.cell? ⟨b, off + j, none⟩ = some v
/-- What two copies leave behind. -/
theorem two_sets {W : World} {b off k : Nat} {A vs D : List Value} (hk : A.length = k) (hv : vs.length = 2) (hA : FlAt W b off A) (hsp : ∀ j, j < k + 2 + D.length → (W.cell? ⟨b, off + j, none⟩).isSome = true) :
    FlAt ((W.setCells b (off + (k + 2)) D).setCells b (off + k) vs) b off (A ++ vs ++ D) := fun j v hj => by
  have hsp1 : ∀ j, j < k + 2 + D.length → ((W.setCells b (off + (k + 2)) D).cell? ⟨b, off + j, none⟩).isSome = true := fun j hj =>
    isSome_setCells b _ _ _ (fun q hq => by rw [Nat.add_assoc]; exact hsp _ (by omega)) _ (hsp j hj)
  by_cases c1 : j < k
  · rw [List.append_assoc, List.getElem?_append_left (by omega)] at hj
    rw [World.cell?_setCells_out b _ _ _ _ (fun _ _ => .inl (by show off + j < off + k; omega)), World.cell?_setCells_out b _ _ _ _ (fun _ _ => .inl (by show off + j < off + (k + 2); omega))]
    exact hA j v hj
  · by_cases c2 : j < k + 2
    · rw [List.getElem?_append_left (by simp; omega), List.getElem?_append_right (by omega)] at hj
      have hlt : j - k < vs.length := by omega
      have := World.cell?_setCells_in b vs (off + k) (W.setCells b (off + (k + 2)) D) (fun q hq => by rw [Nat.add_assoc]; exact hsp1 _ (by omega)) (j - k) hlt
      rw [show off + k + (j - k) = off + j by omega] at this
      rw [this]
      rw [hk, List.getElem?_eq_getElem hlt] at hj
      exact hj
    · rw [List.getElem?_append_right (by simp; omega)] at hj
      simp only [List.length_append, hk, hv] at hj
      have hlt : j - (k + 2) < D.length := (List.getElem?_eq_some_iff.1 hj).1
      rw [World.cell?_setCells_out b _ _ _ _ (fun _ _ => .inr (by show off + k + vs.length ≤ off + j; omega))]
      have := World.cell?_setCells_in b D (off + (k + 2)) W (fun q hq => by rw [Nat.add_assoc]; exact hsp _ (by omega)) (j - (k + 2)) hlt
      rw [show off + (k + 2) + (j - (k + 2)) = off + j by omega] at this
      rw [this, ← List.getElem?_eq_getElem hlt]
      exact hj
theorem two_sets' {W : World} {b off k : Nat} {A vs D : List Value} (hk : A.length = k) (hv : vs.length = 2) (hA : FlAt W b off A) (hsp : ∀ j, j < k + 2 + D.length → (W.cell? ⟨b, off + j, none⟩).isSome = true) :
    FlAt (((W.setCells b (off + k) vs).drew).setCells b (off + (k + 2)) D) b off (A ++ vs ++ D) := fun j v hj => by
  have hsp1 : ∀ j, j < k + 2 + D.length → ((W.setCells b (off + k) vs).drew.cell? ⟨b, off + j, none⟩).isSome = true := fun j hj =>
    isSome_setCells b _ _ _ (fun q hq => by rw [Nat.add_assoc]; exact hsp _ (by omega)) _ (hsp j hj)
  by_cases c1 : j < k
  · rw [List.append_assoc, List.getElem?_append_left (by omega)] at hj
    rw [World.cell?_setCells_out b _ _ _ _ (fun _ _ => .inl (by show off + j < off + (k + 2); omega))]
    show (W.setCells b (off + k) vs).cell? _ = _
    rw [World.cell?_setCells_out b _ _ _ _ (fun _ _ => .inl (by show off + j < off + k; omega))]
    exact hA j v hj
  · by_cases c2 : j < k + 2
    · rw [List.getElem?_append_left (by simp; omega), List.getElem?_append_right (by omega)] at hj
      have hlt : j - k < vs.length := by omega
      rw [World.cell?_setCells_out b _ _ _ _ (fun _ _ => .inl (by show off + j < off + (k + 2); omega))]
      show (W.setCells b (off + k) vs).cell? _ = _
      have := World.cell?_setCells_in b vs (off + k) W (fun q hq => by rw [Nat.add_assoc]; exact hsp _ (by omega)) (j - k) hlt
      rw [show off + k + (j - k) = off + j by omega] at this
      rw [this]
      rw [hk, List.getElem?_eq_getElem hlt] at hj
      exact hj
    · rw [List.getElem?_append_right (by simp; omega)] at hj
      simp only [List.length_append, hk, hv] at hj
      have hlt : j - (k + 2) < D.length := (List.getElem?_eq_some_iff.1 hj).1
      have := World.cell?_setCells_in b D (off + (k + 2)) (W.setCells b (off + k) vs).drew (fun q hq => by rw [Nat.add_assoc]; exact hsp1 _ (by omega)) (j - (k + 2)) hlt
      rw [show off + (k + 2) + (j - (k + 2)) = off + j by omega] at this
      rw [this, ← List.getElem?_eq_getElem hlt]
      exact hj
theorem setCells_heap (b : Nat) : ∀ (vs : List Value) (o : Nat) (w : World), (∀ k, k ≠ b → (w.setCells b o vs).heap[k]? = w.heap[k]?) ∧ (w.setCells b o vs).heap.size = w.heap.size ∧ (w.setCells b o vs).os = w.os ∧ (w.setCells b o vs).tape = w.tape ∧ (w.setCells b o vs).output = w.output
  | [], _, _ => ⟨fun _ _ => rfl, rfl, rfl, rfl, rfl⟩
  | v :: r, o, w => by
    obtain ⟨h1, h2, h3, h4, h5⟩ := setCells_heap b r (o + 1) (w.setCell ⟨b, o, none⟩ v)
    rw [World.setCells]
    refine ⟨fun k hk => (h1 k hk).trans (Below.heap_setCell _ _ _ _ (fun e => hk (by simpa using e))), h2.trans (by simp [World.setCell]), h3, h4, h5⟩
theorem below_set {B b : Nat} (hB : B ≤ b) (vs : List Value) (o : Nat) (w : World) : Below B w (w.setCells b o vs) := by
  obtain ⟨h1, h2, h3, h4, h5⟩ := setCells_heap b vs o w
  exact ⟨h3, h4, h5, by rw [h2]; exact Nat.le_refl _, fun k hk => h1 k (by omega)⟩
end Go.Proofs
set_option linter.unusedVariables false
set_option linter.unusedSimpArgs false
namespace Go.Proofs
open Go.RowKit Go.Shelf Go.Vc Go.Fu
theorem rel_flat {E : Env} {fz : Nat → Prop} {w : World} : ∀ (l : List (Int × Int)) (vs : List Value), RelL E fz w (l.flatMap fun s : Int × Int => encT tSpan s) vs → vs = flat l
  | [], vs, h => h
  | s :: l, vs, h => by
    obtain ⟨_, _, rfl, rfl, _, us, rfl, rfl, h3⟩ : ∃ v us, vs = v :: us ∧ v = .int .i64 s.1 ∧ ∃ v2 us2, us = v2 :: us2 ∧ v2 = .int .i64 s.2 ∧ RelL E fz w (l.flatMap fun s : Int × Int => encT tSpan s) us2 := h
    rw [rel_flat l us h3, flat_cons]; rfl
theorem new_flat {w w' : World} {F : List Value} {row : List Value} {rest : List Value} (h : w'.heap = w.heap.push (.cells (row ++ rest).toArray 41 (0, 0))) (e : row = F) : FlAt w' w.heap.size 0 F := fun j v hj => by
  have hg : w'.heap[w.heap.size]? = some (.cells (row ++ rest).toArray 41 (0, 0)) := by rw [h]; exact Array.getElem?_push_size
  subst e
  have hlt : j < row.length := (List.getElem?_eq_some_iff.1 hj).1
  rw [Nat.zero_add, cell_mk hg, List.getElem?_toArray, List.getElem?_append_left hlt]
  exact hj
theorem new_below {B : Nat} {w w' : World} {o : Obj} (hB : B ≤ w.heap.size) (h : w'.heap = w.heap.push o) (h1 : w'.os = w.os) (h2 : w'.output = w.output) (h3 : w'.tape = w.tape) : Below B w w' :=
  ⟨h1, h3, h2, by rw [h]; simp, fun k hk => by rw [h, Array.getElem?_push_lt (by omega)]; simp [show k < w.heap.size by omega]⟩
theorem below_drew (B : Nat) (w : World) : Below B w w.drew := ⟨rfl, rfl, rfl, Nat.le_refl _, fun _ _ => rfl⟩
/-- A row of spans of one's own. -/
def RowB (w0 : Nat) (l : List (Int × Int)) (v : Value) (w : World) : Prop :=
  (l = [] ∧ ∃ a, v = .slice a 0 0) ∨ ∃ b base c cap arr tt lo hi, v = .slice (some ⟨b, base, none⟩) l.length c ∧ l.length ≤ c ∧ c * 2 ≤ cap ∧ w0 ≤ b ∧ w.heap[b]? = some (.cells arr tt (lo, hi)) ∧ base + cap ≤ arr.size ∧
    (lo = hi ∨ arr.size ≤ lo) ∧ FlAt w b base (flat l) ∧ c ≤ 9223372036854775807
theorem insert_row (l : List (Int × Int)) (i : Nat) (s : Int × Int) (hi : i ≤ l.length) (hs : l.length ≤ 100000) (v : Value) (w0 : Nat) (w : World) (h : RowB w0 l v w) (vb : Nat)
    (hv : w.heap[vb]? = some (.cells #[.int .i64 s.1, .int .i64 s.2] 41 (0, 0))) (hw0 : w0 ≤ vb) (hne : l ≠ [] → ∀ b base n c, v = .slice (some ⟨b, base, none⟩) n c → vb ≠ b) :
    Calls Tryd.prog 41 #[v, .int .i64 i, .slice (some ⟨vb, 0, none⟩) 1 1] w fun e w' => ∃ bI base c, e = .returned (.slice (some ⟨bI, base, none⟩) (l.length + 1) c) ∧ l.length + 1 ≤ c ∧ w0 ≤ bI ∧ bI < w'.heap.size ∧ FlAt w' bI base (flat (spInsert l i s)) ∧ Below w0 w w' := by
  have vlt : vb < w.heap.size := (Array.getElem?_eq_some_iff.1 hv).1
  have hvs : ∀ j u, [Value.int .i64 s.1, Value.int .i64 s.2][j]? = some u → w.cell? ⟨vb, 0 + j, none⟩ = some u := fun j u hj => by
    rw [Nat.zero_add, cell_mk hv]; simpa using hj
  have h1v : ∀ u ∈ [Value.int .i64 s.1, Value.int .i64 s.2], u.oneCell' = true := fun u hu => by
    simp at hu; rcases hu with rfl | rfl <;> rfl
  have fl := flat_len l
  rcases h with ⟨rfl, a, rfl⟩ | ⟨b, base, c, cap, arr, tt, lo, hi2, rfl, g1, g2, g3, g4, g5, g6, r3, hc63⟩
  · have hi0 : i ≤ 0 := hi
    obtain rfl : i = 0 := by omega
    refine (ins_end_grow a 0 0 vb 0 1 [] [.int .i64 s.1, .int .i64 s.2] w (by omega) (by omega) (by omega) rfl rfl (fun _ => rfl) (fun a _ j v hj => by simp at hj) hvs h1v).mono ?_
    rintro e w' ⟨cap, rest, rfl, k1, k2, k3, k4, k5, k6⟩
    exact ⟨w.heap.size, 0, cap, rfl, k1, by omega, by rw [k3]; simp, new_flat k3 rfl, new_below (by omega) k3 k4 k5 k6⟩
  · have r2 := flat_one l
    have hne' : i < l.length → vb ≠ b := fun q => hne (fun e => by rw [e] at q; simp at q) b base l.length c rfl
    have hfz : ∀ j, j < cap → w.frozen? ⟨b, base + j, none⟩ = false := fun j hj => by
      rw [frozen_mk g4]
      rcases g6 with g6 | g6
      · subst g6
        by_cases q : lo ≤ base + j
        · have : ¬ base + j < lo := by omega
          simp [this]
        · simp [q]
      · have : ¬ lo ≤ base + j := by omega
        simp [this]
    have hsp : ∀ j, j < cap → (w.cell? ⟨b, base + j, none⟩).isSome = true := fun j hj => by
      rw [cell_mk g4]; simp; omega
    have blt : b < w.heap.size := (Array.getElem?_eq_some_iff.1 g4).1
    have hca : c * 2 ≤ cap := g2
    by_cases hin : i = l.length
    · subst hin
      have e0 : (flat l).take (l.length * 2) = flat l := List.take_of_length_le (by omega)
      have e1 : (flat l).drop (l.length * 2) = [] := List.drop_eq_nil_of_le (by omega)
      by_cases hroom : l.length + 1 ≤ c
      · refine (ins_end_room b base l.length c vb 0 1 [.int .i64 s.1, .int .i64 s.2] w hroom hc63 rfl (fun j hj => by rw [Nat.add_assoc]; exact hsp _ (by omega)) (fun j hj => by rw [Nat.add_assoc]; exact hfz _ (by omega)) hvs h1v).mono ?_
        rintro e w' ⟨rfl, rfl⟩
        refine ⟨b, base, c, rfl, hroom, g3, by rw [(setCells_heap _ _ _ _).2.1]; exact blt, ?_, below_set g3 _ _ _⟩
        have := two_sets (W := w) (b := b) (off := base) (k := l.length * 2) (A := flat l) (vs := [.int .i64 s.1, .int .i64 s.2]) (D := []) (by omega) rfl r3 (fun j hj => hsp j (by simp at hj; omega))
        rw [flat_ins, e0, e1]
        exact this
      · refine (ins_end_grow (some ⟨b, base, none⟩) l.length c vb 0 1 (flat l) [.int .i64 s.1, .int .i64 s.2] w (by omega) g1 (by omega) fl rfl (fun q => by cases q) (fun a ha j v hj => by cases ha; rw [Addr.add_lit]; exact r3 j v hj) hvs h1v).mono ?_
        rintro e w' ⟨cap', rest, rfl, k1, k2, k3, k4, k5, k6⟩
        exact ⟨w.heap.size, 0, cap', rfl, k1, by omega, by rw [k3]; simp, new_flat k3 (by rw [flat_ins, e0, e1, List.append_nil]; rfl), new_below (by omega) k3 k4 k5 k6⟩
    · have hlt : i < l.length := by omega
      by_cases hroom : l.length + 1 ≤ c
      · refine (ins_shift b base l.length c i vb 0 1 (flat l) [.int .i64 s.1, .int .i64 s.2] w hlt hroom hc63 (hne' hlt) fl rfl r3 (fun j hj => hsp j (by omega)) (fun j hj => hfz j (by omega)) hvs r2 h1v 41 tt 2 arr.size (by simp [World.shape?, hv]) (by simp [World.shape?, g4]) (by omega) (by rw [frozen_mk hv]; simp) (by rw [frozen_mk hv]; simp)).mono ?_
        rintro e w' ⟨rfl, rfl⟩
        refine ⟨b, base, c, rfl, hroom, g3, by rw [(setCells_heap _ _ _ _).2.1, (setCells_heap _ _ _ _).2.1]; exact blt, ?_, ((below_drew w0 w).trans (below_set g3 _ _ _)).trans (below_set g3 _ _ _)⟩
        have := two_sets (W := w.drew) (b := b) (off := base) (k := i * 2) (A := (flat l).take (i * 2)) (vs := [.int .i64 s.1, .int .i64 s.2]) (D := (flat l).drop (i * 2)) (by rw [List.length_take]; omega) rfl
          (fun j v hj => r3 j v (by rw [List.getElem?_take] at hj; split at hj <;> simp_all)) (fun j hj => hsp j (by rw [List.length_drop] at hj; omega))
        rw [flat_ins]
        rw [show (i + 1) * 2 = i * 2 + 2 by omega]
        exact this
      · refine (ins_grow b base l.length c i vb 0 1 (flat l) [.int .i64 s.1, .int .i64 s.2] w hlt (by omega) g1 (by omega) fl rfl blt vlt r3 hvs r2 h1v).mono ?_
        rintro e w' ⟨cap', row, rfl, k1, k2, rfl, k3⟩
        have hg : (w.drew.alloc (.cells row 41)).heap[w.heap.size]? = some (.cells row 41 (0, 0)) := by
          simp only [World.alloc]; exact Array.getElem?_push_size
        have bl : Below w0 w (w.drew.alloc (.cells row 41)) := (below_drew w0 w).trans ((Below.refl w0 w.drew).alloc (by show w0 ≤ w.heap.size; omega) _)
        have ts := two_sets' (W := w.drew.alloc (.cells row 41)) (b := w.heap.size) (off := 0) (k := i * 2) (A := (flat l).take (i * 2)) (vs := [.int .i64 s.1, .int .i64 s.2]) (D := (flat l).drop (i * 2)) (by rw [List.length_take]; omega) rfl
          (fun j v hj => by
            rw [← k3] at hj
            rw [Nat.zero_add, cell_mk hg]
            rw [List.getElem?_take] at hj
            split at hj
            · simpa using hj
            · cases hj) (fun j hj => by rw [Nat.zero_add, cell_mk hg]; rw [List.length_drop] at hj; simp; omega)
        rw [Nat.zero_add, Nat.zero_add] at ts
        refine ⟨w.heap.size, 0, cap', rfl, k1, by omega, ?_, ?_, ?_⟩
        · rw [(setCells_heap _ _ _ _).2.1]
          show _ < ((w.drew.alloc (.cells row 41)).setCells w.heap.size (i * 2) _).heap.size
          rw [(setCells_heap _ _ _ _).2.1]
          simp [World.alloc]

        · rw [flat_ins, show (i + 1) * 2 = i * 2 + 2 by omega]
          exact ts
        · exact ((bl.trans (below_set (by omega) _ _ _)).trans (below_drew w0 _)).trans (below_set (by omega) _ _ _)
end Go.Proofs
set_option linter.unusedVariables false
set_option linter.unusedSimpArgs false
namespace Go.Proofs
open Go.RowKit Go.Shelf Go.Vc Go.Fu
/-- A row of spans that came in. -/
def SpIn (l : List (Int × Int)) (v : Value) (w : World) : Prop :=
  (l = [] ∧ ∃ a c, v = .slice a 0 c) ∨ ∃ b off c, v = .slice (some ⟨b, off, none⟩) l.length c ∧ l.length ≤ c ∧ b < w.heap.size ∧ FlAt w b off (flat l)
theorem bin_nil (a : Option Addr) (n c : Nat) (W : World) : (binOp .eql 37 (.slice a n c) (.slice none 0 0)).run Tryd.prog W = .ok (.bool a.isNone) W := by
  simp only [binOp]
  simp [run_equal_slice_nil W 37 41 a n c Tryd.underlying37]
set_option maxHeartbeats 4000000 in
set_option maxRecDepth 100000 in
theorem clone_nil (c : Nat) (w : World) : Calls Tryd.prog 36 #[.slice none 0 c] w fun e w' => e = .returned (.slice none 0 0) ∧ w' = w := by
  have hb := bin_nil none 0 c
  go_enter Tryd.func36, Tryd.ntmps36
  go_wp2
  go_ret
  exact ⟨rfl, rfl⟩
set_option maxHeartbeats 4000000 in
set_option maxRecDepth 100000 in
theorem clone_some (b off n c : Nat) (cs : List Value) (w : World) (hbig : n ≤ 100000) (hcl : cs.length = n * 2) (hlt : b < w.heap.size) (hcs : FlAt w b off cs) (h1 : ∀ v ∈ cs, v.oneCell' = true) : Calls Tryd.prog 36 #[.slice (some ⟨b, off, none⟩) n c] w fun e w' => ∃ v, e = .returned v ∧ Below w.heap.size w w' ∧
    ((n = 0 ∧ ∃ a, v = .slice a 0 0) ∨ ∃ (cap : Nat) (rest : List Value) (bN : Nat), v = .slice (some ⟨bN, 0, none⟩) n cap ∧ n ≤ cap ∧ cap ≤ 9223372036854775807 ∧ rest.length = (cap - n) * 2 ∧ w.heap.size ≤ bN ∧ w'.heap[bN]? = some (.cells (cs ++ rest).toArray 41 (0, 0))) := by
  have hb := bin_nil (some ⟨b, off, none⟩) n c
  obtain ⟨i0, hi0, hz0, hby, z, hz, hzc⟩ := span_info
  obtain ⟨W, hW⟩ : ∃ W, W = w.alloc (.cells #[] 41) := ⟨_, rfl⟩
  have bW : Below w.heap.size w W := by rw [hW]; exact (Below.refl _ w).alloc (Nat.le_refl _) _
  have sW : w.heap.size < W.heap.size := by rw [hW]; show w.heap.size < (w.heap.push _).size; rw [Array.size_push]; omega
  have hcs' : FlAt W b off cs := fun j v hj => by
    rw [World.cell?_of_block (a := ⟨b, off + j, none⟩) (bW.block b hlt)]; exact hcs j v hj
  by_cases hn : n = 0
  · subst hn
    have hrun : ∀ ty, (Builtin.append_ #[37, 37] ty #[.slice (some ⟨w.heap.size, 0, none⟩) 0 0, .slice (some ⟨b, off, none⟩) 0 c]).run Tryd.prog W = .ok (.slice (some ⟨w.heap.size, 0, none⟩) 0 0) W := fun ty => by
      rw [run_append_in (P := Tryd.prog) (w := W) (base := some ⟨w.heap.size, 0, none⟩) (sLen := 0) (sCap := 0) (n := 0) (news := []) (i := i0) (t := 37) (u := 37) rfl rfl rfl rfl Tryd.underlying37 Tryd.underlying37 (.inl ⟨_, rfl⟩) hi0 (by simp [Builtin.lenOf])
        (run_firstCells_some (P := Tryd.prog) W i0.size 0 ⟨b, off, none⟩ 0 c [] (by simp) fun j v hj => by simp at hj) (by omega)]
      rfl
    rw [hW] at hrun bW
    go_enter Tryd.func36, Tryd.ntmps36
    go_wp2_with (at_builtin; refine Lib.wpList_append_run _ rfl _ _ _ _ rfl _ _ rfl rfl _ _ (hrun _) ?_)
    go_ret
    exact ⟨_, rfl, bW, .inl ⟨trivial, _, rfl⟩⟩
  · have hcell : ∀ w' : World, w'.heap = W.heap → ∀ a : Addr, w'.cell? a = W.cell? a := fun w' hw a => by unfold World.cell?; rw [hw]
    obtain ⟨w1, rest, cap, ⟨k1, k0⟩, k2, k3, k4, k5, k6, k7⟩ := run_append_newc (P := Tryd.prog) (w := W) (ats := #[37, 37]) (ty := 37) (args := #[.slice (some ⟨w.heap.size, 0, none⟩) 0 0, .slice (some ⟨b, off, none⟩) n c]) (base := some ⟨w.heap.size, 0, none⟩) (sLen := 0) (sCap := 0) (n := n) (olds := []) (news := cs) (i := i0) (z := z) (t := 37) (u := 37) rfl rfl rfl rfl Tryd.underlying37 Tryd.underlying37 (.inl ⟨_, rfl⟩) hi0 hz (by rw [hby]; decide)
      (fun w' => by simp [Builtin.lenOf]) (fun w' hw => run_firstCells_some (P := Tryd.prog) w' i0.size n ⟨b, off, none⟩ n c cs (by rw [hcl, hz0]) fun j v hj => by rw [Addr.add_lit, hcell w' hw]; exact hcs' j v hj)
      (fun w' hw => run_firstCells_some (P := Tryd.prog) w' i0.size 0 ⟨w.heap.size, 0, none⟩ 0 0 [] (by simp) fun j v hj => by simp at hj) (by omega) (by rw [hby]; omega)
    have k8 : ∃ bN, bN = W.heap.size := ⟨_, rfl⟩
    obtain ⟨bN, hbN⟩ := k8
    rw [← hbN] at k3
    have kg : w1.heap[bN]? = some (.cells (cs ++ rest).toArray 41 (0, 0)) := by rw [k4, hbN]; exact Array.getElem?_push_size
    have kb : Below w.heap.size w w1 := bW.trans ⟨k5, k7.1, k6, by rw [k4]; simp, fun k hk => by rw [k4, Array.getElem?_push_lt (by omega)]; simp [show k < W.heap.size by omega]⟩
    have kl : w.heap.size ≤ bN := by omega
    simp only [Nat.zero_add] at k1 k2 k3
    rw [hzc] at k2
    have HK := Lib.hid k2
    have HG := Lib.hid kg
    clear k2 kg hbN k4 k5 k6 k7
    rw [hW] at k3
    clear hcs hcs' sW bW hcell h1 hW
    go_enter Tryd.func36, Tryd.ntmps36
    go_wp2_with (at_builtin; refine Lib.wpList_append_run _ rfl _ _ _ _ rfl _ _ rfl rfl _ _ k3 ?_)
    go_ret
    exact ⟨_, rfl, kb, .inr ⟨cap, rest, bN, rfl, k1, k0, HK.out, kl, HG.out⟩⟩
end Go.Proofs
set_option linter.unusedVariables false
set_option linter.unusedSimpArgs false
namespace Go.Proofs
open Go.RowKit Go.Shelf Go.Vc Go.Fu
theorem flat_get0 : ∀ (l : List (Int × Int)) (j : Nat) (s : Int × Int), l[j]? = some s → (flat l)[j * 2]? = some (.int .i64 s.1) ∧ (flat l)[j * 2 + 1]? = some (.int .i64 s.2)
  | [], j, s, h => by simp at h
  | a :: l, 0, s, h => by
    simp at h; subst h
    rw [flat_cons]; exact ⟨rfl, rfl⟩
  | a :: l, j + 1, s, h => by
    have := flat_get0 l j s (by simpa using h)
    rw [flat_cons, show (j + 1) * 2 = j * 2 + 1 + 1 by omega]
    simpa using this
theorem flat_sp {w : World} {b off : Nat} {l : List (Int × Int)} (h : FlAt w b off (flat l)) : SpAt w b off l := fun j s hj => by
  obtain ⟨h1, h2⟩ := flat_get0 l j s hj
  exact ⟨h _ _ h1, by rw [Nat.add_assoc]; exact h _ _ h2⟩
theorem SpIn.below {l : List (Int × Int)} {v : Value} {w W : World} (h : SpIn l v w) (hb : Below w.heap.size w W) : SpIn l v W := by
  rcases h with h | ⟨b, off, c, h1, h2, h3, h4⟩
  · exact .inl h
  · exact .inr ⟨b, off, c, h1, h2, Nat.lt_of_lt_of_le h3 hb.size, fun j v hj => by
      rw [World.cell?_of_block (a := ⟨b, off + j, none⟩) (hb.block b h3)]; exact h4 j v hj⟩
set_option maxHeartbeats 4000000 in
set_option maxRecDepth 100000 in
theorem bs_nil (a : Option Addr) (c : Nat) (lo : Int) (w : World) : Calls Tryd.prog 39 #[.slice a 0 c, .int .i64 lo, .func (.func 40) #[] #[]] w fun e w' => ∃ (i : Nat) (f : Bool), e = .returned (.tuple #[.int .i64 i, .bool f]) ∧ i = 0 ∧ w' = w := by
  go_enter Tryd.func39, Tryd.ntmps39
  go_wp2
  go_loopw [9, 10] (fun vi vj wr => vi = .int .i64 0 ∧ vj = .int .i64 0 ∧ wr = w) (fun i j _ => 0)
  case atStart => exact ⟨rfl, rfl, rfl⟩
  case round =>
    obtain ⟨rfl, rfl, rfl⟩ := hrel
    go_wp2
    go_ret2
    exact ⟨0, _, rfl, rfl, rfl⟩
/-- Where s.1 goes. -/
def PlIn (l : List (Int × Int)) (lo : Int) (i : Nat) : Prop := i ≤ l.length ∧ (∀ j s, j < i → l[j]? = some s → s.1 < lo) ∧ (∀ j s, i ≤ j → l[j]? = some s → lo ≤ s.1)
theorem bs_any (l : List (Int × Int)) (lo : Int) (hlo : -1000000 ≤ lo ∧ lo ≤ 1000000) (hl : ∀ s ∈ l, -1000000 ≤ s.1 ∧ s.1 ≤ 1000000) (hn : l.length ≤ 1000000) (asc : ∀ i j : Nat, i ≤ j → ∀ s t, l[i]? = some s → l[j]? = some t → s.1 ≤ t.1)
    (v : Value) (w : World) (h : SpIn l v w) :
    Calls Tryd.prog 39 #[v, .int .i64 lo, .func (.func 40) #[] #[]] w fun e w' => ∃ (i : Nat) (f : Bool), e = .returned (.tuple #[.int .i64 i, .bool f]) ∧ PlIn l lo i ∧ Below w.heap.size w w' := by
  rcases h with ⟨rfl, a, c, rfl⟩ | ⟨b, off, c, rfl, h2, h3, h4⟩
  · refine (bs_nil a c lo w).mono ?_
    rintro e w' ⟨i, f, rfl, rfl, rfl⟩
    exact ⟨0, f, rfl, ⟨Nat.le_refl _, fun j s h => absurd h (Nat.not_lt_zero _), fun j s _ h => by simp at h⟩, Below.refl _ _⟩
  · refine (bsearch l lo hlo hl hn asc b off c w h3 (flat_sp h4)).mono ?_
    rintro e w' ⟨i, f, rfl, g1, g2, g3, g4⟩
    exact ⟨i, f, rfl, ⟨g1, g2, g3⟩, g4⟩
set_option maxHeartbeats 4000000 in
set_option maxRecDepth 100000 in
theorem clone_zero (ad : Addr) (c : Nat) (w : World) : Calls Tryd.prog 36 #[.slice (some ad) 0 c] w fun e w' => ∃ v, e = .returned v ∧ Below w.heap.size w w' ∧ ∃ a, v = .slice a 0 0 := by
  have hb := bin_nil (some ad) 0 c
  obtain ⟨i0, hi0, hz0, hby, z, hz, hzc⟩ := span_info
  obtain ⟨W, hW⟩ : ∃ W, W = w.alloc (.cells #[] 41) := ⟨_, rfl⟩
  have bW : Below w.heap.size w W := by rw [hW]; exact (Below.refl _ w).alloc (Nat.le_refl _) _
  have hrun : ∀ ty, (Builtin.append_ #[37, 37] ty #[.slice (some ⟨w.heap.size, 0, none⟩) 0 0, .slice (some ad) 0 c]).run Tryd.prog W = .ok (.slice (some ⟨w.heap.size, 0, none⟩) 0 0) W := fun ty => by
    rw [run_append_in (P := Tryd.prog) (w := W) (base := some ⟨w.heap.size, 0, none⟩) (sLen := 0) (sCap := 0) (n := 0) (news := []) (i := i0) (t := 37) (u := 37) rfl rfl rfl rfl Tryd.underlying37 Tryd.underlying37 (.inl ⟨_, rfl⟩) hi0 (by simp [Builtin.lenOf])
      (run_firstCells_some (P := Tryd.prog) W i0.size 0 ad 0 c [] (by simp) fun j v hj => by simp at hj) (by omega)]
    rfl
  rw [hW] at hrun bW
  go_enter Tryd.func36, Tryd.ntmps36
  go_wp2_with (at_builtin; refine Lib.wpList_append_run _ rfl _ _ _ _ rfl _ _ rfl rfl _ _ (hrun _) ?_)
  go_ret
  exact ⟨_, rfl, bW, _, rfl⟩
theorem clone_any (l : List (Int × Int)) (hn : l.length ≤ 100000) (v : Value) (w : World) (h : SpIn l v w) : Calls Tryd.prog 36 #[v] w fun e w' => ∃ u, e = .returned u ∧ Below w.heap.size w w' ∧ RowB w.heap.size l u w' := by
  rcases h with ⟨rfl, a, c, rfl⟩ | ⟨b, off, c, rfl, h2, h3, h4⟩
  · cases a with
    | none =>
      refine (clone_nil c w).mono ?_
      rintro e w' ⟨rfl, rfl⟩
      exact ⟨_, rfl, Below.refl _ _, .inl ⟨rfl, none, rfl⟩⟩
    | some a =>
      refine (clone_zero a c w).mono ?_
      rintro e w' ⟨v, rfl, hb, a, rfl⟩
      exact ⟨_, rfl, hb, .inl ⟨rfl, a, rfl⟩⟩
  · refine (clone_some b off l.length c (flat l) w hn (flat_len l) h3 h4 (flat_one l)).mono ?_
    rintro e w' ⟨u, rfl, hb, ⟨h0, a, rfl⟩ | ⟨cap, rest, bN, rfl, k1, k2, k3, k4, k5⟩⟩
    · exact ⟨_, rfl, hb, .inl ⟨List.eq_nil_of_length_eq_zero h0, a, rfl⟩⟩
    · refine ⟨_, rfl, hb, .inr ⟨bN, 0, cap, cap * 2, _, 41, 0, 0, rfl, k1, Nat.le_refl _, k4, k5, ?_, .inl rfl, ?_, k2⟩⟩
      · have := flat_len l; simp; omega
      · intro j x hj
        have hlt : j < (flat l).length := (List.getElem?_eq_some_iff.1 hj).1
        rw [Nat.zero_add, cell_mk k5, List.getElem?_toArray, List.getElem?_append_left hlt]; exact hj
/-- A call behind which all is over: what was made since may be read by it. -/
theorem _root_.Go.Vc.ACalls.tail {P : Program} {f : FuncId} {args : List AVal} {R : AVal → Store → Prop} (h : ACalls P f args [] R) (hc : callable P f = true) (hd : ¬ Dm) {E : Env} {fz g : Nat → Prop} {w W : World} {vals : List Value} (st : St E fz [] w) (hb : Below w.heap.size w W)
    (hg : ∀ b, g b → w.heap.size ≤ b ∧ b < W.heap.size) (hr : RelL E (fun b => fz b ∨ g b) W args vals) :
    Calls P f vals.toArray W fun e w' => ∃ r S' v E' fz', e = .returned v ∧ Ext E fz [] w E' fz' S' w' ∧ St E' fz' S' w' ∧ Rel E' fz' w' r v ∧ R r S' := by
  have stW : St E (fun b => fz b ∨ g b) [] W := ⟨fun l o h => by simp at h, fun l l' b ⟨o, q, _⟩ => by simp at q, fun b hb' => hb'.elim (fun q => Nat.lt_of_lt_of_le (st.fzlt b q) hb.size) fun q => (hg b q).2, st.fresh⟩
  refine ((h.out E _ W vals stW hr).calls hc).mono ?_
  rintro e w' ⟨r, S', v, E', fz', h1, h2, h3, h4, h5⟩
  refine ⟨r, S', v, E', fz', h1, ⟨h2.env, fun b q => h2.frz b (.inl q), fun b q => ?_, fun b q _ => ?_, fun b q => ?_, Nat.le_trans hb.size h2.size, h2.os.trans hb.os, h2.output.trans hb.output, ⟨h2.tape.1.trans hb.tape, fun d => absurd d hd⟩⟩, h3, h4, h5⟩
  · rcases h2.fznew b q with (q | q) | q | q
    · exact .inl q
    · exact .inr (.inr (hg b q).1)
    · exact absurd q no_own
    · exact .inr (.inr (Nat.le_trans hb.size q))
  · rw [h2.keep b (Nat.lt_of_lt_of_le q hb.size) no_own, hb.block b q]
  · rcases h2.own b q with q | q
    · exact absurd q no_own
    · exact .inr (Nat.le_trans hb.size q)
theorem flat_relC {E : Env} {fz : Nat → Prop} {w : World} {b off : Nat} {l : List (Int × Int)} (h : FlAt w b off (flat l)) : RelC E fz w b off (l.flatMap fun s : Int × Int => encT tSpan s) :=
  RelC.mk fun i x hx => by
    have e : ∀ (l : List (Int × Int)) (i : Nat) (x : AVal), (l.flatMap fun s : Int × Int => encT tSpan s)[i]? = some x → ∃ z : Int, x = .int .i64 z ∧ (flat l)[i]? = some (.int .i64 z) := by
      intro l
      induction l with
      | nil => intro i x h; simp at h
      | cons s l ih =>
        intro i x h
        rw [flat_cons]
        rw [List.flatMap_cons] at h
        match i, h with
        | 0, h => exact ⟨s.1, by simpa [encT, encTs] using h.symm, rfl⟩
        | 1, h => exact ⟨s.2, by simpa [encT, encTs] using h.symm, rfl⟩
        | i + 2, h => simpa using ih i x (by simpa [encT, encTs] using h)
    obtain ⟨z, rfl, hz⟩ := e l i x hx
    exact ⟨_, h i _ hz, rfl, by simp only [Rel]⟩
theorem RowB.below {w0 : Nat} {l : List (Int × Int)} {v : Value} {w W : World} (h : RowB w0 l v w) (hb : Below w.heap.size w W) : RowB w0 l v W := by
  rcases h with h | ⟨b, base, c, cap, arr, tt, lo, hi, h1, h2, h3, h4, h5, h6, h7, h8, h9⟩
  · exact .inl h
  · have hlt : b < w.heap.size := (Array.getElem?_eq_some_iff.1 h5).1
    exact .inr ⟨b, base, c, cap, arr, tt, lo, hi, h1, h2, h3, h4, by rw [hb.block b hlt]; exact h5, h6, h7, fun j v hj => by
      rw [World.cell?_of_block (a := ⟨b, base + j, none⟩) (hb.block b hlt)]; exact h8 j v hj, h9⟩
theorem RowB.le {w0 w1 : Nat} {l : List (Int × Int)} {v : Value} {w : World} (h : RowB w1 l v w) (hw : w0 ≤ w1) : RowB w0 l v w := by
  rcases h with h | ⟨b, base, c, cap, arr, tt, lo, hi, h1, h2, h3, h4, h5, h6, h7, h8, h9⟩
  · exact .inl h
  · exact .inr ⟨b, base, c, cap, arr, tt, lo, hi, h1, h2, h3, Nat.le_trans hw h4, h5, h6, h7, h8, h9⟩
theorem RowB.lt {w0 : Nat} {l : List (Int × Int)} {v : Value} {w : World} (h : RowB w0 l v w) {b base n c : Nat} (hv : v = .slice (some ⟨b, base, none⟩) n c) (hn : l ≠ []) : w0 ≤ b ∧ b < w.heap.size := by
  rcases h with h | ⟨b', base', c', cap, arr, tt, lo, hi, h1, h2, h3, h4, h5, h6, h7, h8, h9⟩
  · exact absurd h.1 hn
  · rw [hv] at h1
    simp only [Value.slice.injEq, Option.some.injEq, Addr.mk.injEq] at h1
    obtain ⟨⟨rfl, _, _⟩, _, _⟩ := h1
    exact ⟨h4, (Array.getElem?_eq_some_iff.1 h5).1⟩
/-- What With comes to. -/
def WithPost (l : List (Int × Int)) (s : Int × Int) (E : Env) (fz : Nat → Prop) (w : World) (e : Ending) (w' : World) : Prop :=
  ∃ r S' v E' fz', e = .returned v ∧ Ext E fz [] w E' fz' S' w' ∧ St E' fz' S' w' ∧ Rel E' fz' w' r v ∧ resR spans_Joined_ct.res (withSp l s) r S'
def InsPost (l : List (Int × Int)) (i : Nat) (s : Int × Int) (w0 : Nat) (w : World) (e : Ending) (w' : World) : Prop :=
  ∃ bI base c, e = .returned (.slice (some ⟨bI, base, none⟩) (l.length + 1) c) ∧ l.length + 1 ≤ c ∧ w0 ≤ bI ∧ bI < w'.heap.size ∧ FlAt w' bI base (flat (spInsert l i s)) ∧ Below w0 w w'
theorem asc_idx {l : List (Int × Int)} (hl : spansPre l) : ∀ i j : Nat, i ≤ j → ∀ s t, l[i]? = some s → l[j]? = some t → s.1 ≤ t.1 := fun i j hij s t hs ht => by
  have pw : ∀ {l : List Span} {a : Int}, sepFrom a l → l.Pairwise fun a b => a.1 ≤ b.1 := by
    intro l
    induction l with
    | nil => intro a _; exact .nil
    | cons s l ih =>
      intro a h
      refine .cons (fun b hb => ?_) (ih h.2.2.2)
      have := sep_mem h.2.2.2 b hb
      have := h.2.1
      omega
  obtain ⟨h1, e1⟩ := List.getElem?_eq_some_iff.1 hs
  obtain ⟨h2, e2⟩ := List.getElem?_eq_some_iff.1 ht
  rcases Nat.lt_or_ge i j with h | h
  · have := List.pairwise_iff_getElem.1 (pw hl.2) i j h1 h2 h
    rw [e1, e2] at this; exact this
  · obtain rfl : i = j := by omega
    rw [hs] at ht; cases ht; exact Int.le_refl _
set_option maxHeartbeats 8000000 in
set_option maxRecDepth 100000 in
theorem with_walk (hd : ¬ Dm) (hJ : Con Tryd.prog 30 spans_Joined_ct) (l : List (Int × Int)) (s : Int × Int) (hl : spansPre l) (hs : spanPre s) (v : Value) {E : Env} {fz : Nat → Prop} (w : World) (st : St E fz [] w) (hv : SpIn l v w) :
    Calls Tryd.prog 29 #[v, .agg #[.int .i64 s.1, .int .i64 s.2]] w (WithPost l s E fz w) := by
  have hm : ∀ x ∈ l, spanPre x := fun x hx => by
    have := sep_mem hl.2 x hx
    exact ⟨by omega, by omega, this.2.2⟩
  have hlen : l.length ≤ 100000 := hl.1
  have hasc : ∀ i j : Nat, i ≤ j → ∀ s t, l[i]? = some s → l[j]? = some t → s.1 ≤ t.1 := asc_idx hl
  have hbs : ∀ W, Below w.heap.size w W → Calls Tryd.prog 39 #[v, .int .i64 s.1, .func (.func 40) #[] #[]] W fun e w' => ∃ (i : Nat) (f : Bool), e = .returned (.tuple #[.int .i64 i, .bool f]) ∧ PlIn l s.1 i ∧ Below W.heap.size W w' := fun W hb =>
    bs_any l s.1 ⟨by have := hs.1; omega, by have := hs.2; omega⟩ (fun x hx => ⟨by have := (hm x hx).1; omega, by have := (hm x hx).2; omega⟩) (by omega) hasc v W (hv.below hb)
  have hins : ∀ (i : Nat) u W vb, i ≤ l.length → RowB w.heap.size l u W → W.heap[vb]? = some (.cells #[.int .i64 s.1, .int .i64 s.2] 41 (0, 0)) → w.heap.size ≤ vb → (l ≠ [] → ∀ b base n c, u = .slice (some ⟨b, base, none⟩) n c → vb ≠ b) →
      Calls Tryd.prog 41 #[u, .int .i64 i, .slice (some ⟨vb, 0, none⟩) 1 1] W (InsPost l i s w.heap.size W) := fun i u W vb hi h1 h2 h3 h4 => insert_row l i s hi hlen u w.heap.size W h1 vb h2 h3 h4
  have htl : ∀ (i : Nat) W bI base c, PlIn l s.1 i → Below w.heap.size w W → l.length + 1 ≤ c → w.heap.size ≤ bI → bI < W.heap.size → FlAt W bI base (flat (spInsert l i s)) → Calls Tryd.prog 30 #[.slice (some ⟨bI, base, none⟩) (l.length + 1) c] W (WithPost l s E fz w) := fun i W bI base c h0 h1 h2 h3 h4 h5 => by
    have hin : (spInsert l i s).length = l.length + 1 := by
      have := h0.1
      unfold spInsert; simp only [List.length_append, List.length_take, List.length_singleton, List.length_drop]; omega
    have hok : ascOk (spInsert l i s) := ins_asc hl hs (by omega) (by have := h0.1; omega)
      (fun j a b => h0.2.1 j.toNat _ (by omega) (gt_get? a (by have := h0.1; omega)))
      (fun j a b => h0.2.2 j.toNat _ (by omega) (gt_get? (by omega) b))
    have hr := (hJ.2 (spInsert l i s) hok).tail hJ.1 hd (g := fun b => b = bI) (vals := [.slice (some ⟨bI, base, none⟩) (l.length + 1) c]) st h1 (fun b hb => by subst hb; exact ⟨h3, h4⟩)
      ⟨_, _, rfl, .inr ⟨bI, base, c, .inr rfl, Nat.le_trans (Nat.le_of_eq hin) h2, congrArg (fun n => Value.slice (some ⟨bI, base, none⟩) n c) hin.symm, flat_relC h5⟩, rfl⟩
    have e : spans_Joined_ct.fn (spInsert l i s) = withSp l s := ins_joined
    rw [e] at hr
    exact hr
  have hvw := Lib.hid hv
  have hww : w.heap.size < (w.alloc (.cells #[.int .i64 s.1, .int .i64 s.2] 41)).heap.size := by show w.heap.size < (w.heap.push _).size; rw [Array.size_push]; omega
  have bw0 : Below w.heap.size w (w.alloc (.cells #[.int .i64 s.1, .int .i64 s.2] 41)) := (Below.refl _ w).alloc (Nat.le_refl _) _
  clear hv hm hasc
  go_enter Tryd.func29, Tryd.ntmps29
  go_wp2_with (go_at_call 39; refine (hbs _ bw0).mono ?_; rintro e W1 ⟨i, f, rfl, hi, hb1⟩)
  have bW1 : Below w.heap.size w W1 := bw0.trans (hb1.mono (Nat.le_of_lt hww))
  have gW1 : W1.heap[w.heap.size]? = some (.cells #[.int .i64 s.1, .int .i64 s.2] 41 (0, 0)) := by
    rw [hb1.block _ hww]; show (w.heap.push _)[w.heap.size]? = _; exact Array.getElem?_push_size
  have hc0 : W1.cell? ⟨w.heap.size, 0, none⟩ = some (.int .i64 s.1) := by rw [cell_mk gW1]; rfl
  have hc1 : W1.cell? ⟨w.heap.size, 1, none⟩ = some (.int .i64 s.2) := by rw [cell_mk gW1]; rfl
  have sW1 : w.heap.size < W1.heap.size := Nat.lt_of_lt_of_le hww hb1.size
  have hcl : ∀ W, Below W1.heap.size W1 W → Calls Tryd.prog 36 #[v] W fun e w' => ∃ u, e = .returned u ∧ Below W.heap.size W w' ∧ RowB W.heap.size l u w' ∧ w'.cell? ⟨w.heap.size, 0, none⟩ = some (.int .i64 s.1) ∧ w'.cell? ⟨w.heap.size, 1, none⟩ = some (.int .i64 s.2) := fun W hb => by
    refine (clone_any l hlen v W (hvw.out.below (bW1.trans (hb.mono (Nat.le_of_lt sW1))))).mono ?_
    rintro e w' ⟨u, rfl, k1, k2⟩
    have kk := (hb.trans (k1.mono hb.size)).block _ sW1
    exact ⟨u, rfl, k1, k2, by rw [World.cell?_of_block (a := ⟨w.heap.size, 0, none⟩) kk]; exact hc0, by rw [World.cell?_of_block (a := ⟨w.heap.size, 1, none⟩) kk]; exact hc1⟩
  clear gW1
  have sWa : W1.heap.size < (W1.alloc (.cells #[.int .i64 s.1, .int .i64 s.2] 41)).drew.heap.size := by show W1.heap.size < (W1.heap.push _).size; rw [Array.size_push]; omega
  go_region_with (first
    | (go_at_call 36; refine (hcl _ ?_).mono ?_; (first | exact below_drew _ W1 | exact ((Below.refl _ W1).alloc (Nat.le_refl _) _).trans (below_drew _ _)); rintro e W2 ⟨u, rfl, hb2, hr2, q0, q1⟩)
    | (go_at_call 41; refine (hins i u _ _ hi.1 ?_ ?_ ?_ ?_).mono ?_
       (first | exact (hr2.below ((Below.refl _ W2).alloc (Nat.le_refl _) _)).le (Nat.le_of_lt sW1) | exact hr2.le (Nat.le_of_lt (Nat.lt_trans sW1 sWa)))
       (first | exact Array.getElem?_push_size | exact (hb2.block _ sWa).trans Array.getElem?_push_size)
       (first | exact Nat.le_of_lt sW1 | exact Nat.le_trans (Nat.le_of_lt sW1) hb2.size)
       (first | exact fun hn b base n c hu => Nat.ne_of_gt (hr2.lt hu hn).2 | exact fun hn b base n c hu => Nat.ne_of_lt (Nat.lt_of_lt_of_le sWa (hr2.lt hu hn).1))
       rintro e W3 ⟨bI, base, c, rfl, k1, k2, k3, k4, k5⟩)
    | (go_at_call 30; refine (htl i _ bI base c hi ?_ k1 k2 k3 k4).mono ?_
       (first | exact (((bW1.trans (below_drew _ W1)).trans (hb2.mono (Nat.le_of_lt sW1))).trans ((Below.refl _ W2).alloc (Nat.le_trans (Nat.le_of_lt sW1) hb2.size) _)).trans k5 | exact ((bW1.trans (((Below.refl _ W1).alloc (Nat.le_of_lt sW1) _).trans (below_drew _ _))).trans (hb2.mono (Nat.le_of_lt (Nat.lt_trans sW1 sWa)))).trans k5)
       rintro e W4 ⟨r, S', vv, E', fz', rfl, k6⟩))
  all_goals
    go_wp2
    go_ret
    exact ⟨r, S', vv, E', fz', rfl, k6⟩
theorem with_con (hd : ¬ Dm) (hJ : Con Tryd.prog 30 spans_Joined_ct) : Con Tryd.prog 29 spans_With_ct := by
  have hc : callable Tryd.prog 29 = true := by kernel_rfl
  refine ⟨hc, fun (x : List (Int × Int) × (Int × Int)) hx => ⟨fun E fz w vals st hrel => .inl ⟨hc, ?_⟩⟩⟩
  obtain ⟨v1, _, rfl, h1, v2, _, rfl, ⟨vs, rfl, ⟨_, _, rfl, rfl, _, _, rfl, rfl, rfl⟩, _⟩, rfl⟩ : ∃ v1 us, vals = v1 :: us ∧ Rel E fz w (encA (.sl tSpan) x.1) v1 ∧ ∃ v2 us', us = v2 :: us' ∧ (∃ vs : List Value, v2 = .agg vs.toArray ∧ (∃ a1 us1, vs = a1 :: us1 ∧ a1 = .int .i64 x.2.1 ∧ ∃ a2 us2, us1 = a2 :: us2 ∧ a2 = .int .i64 x.2.2 ∧ us2 = []) ∧ ∀ c ∈ vs, c.oneCell' = true) ∧ us' = [] := hrel
  have h1 : (x.1.length = 0 ∧ ∃ a c, v1 = .slice a 0 c) ∨ ∃ b off c, fz b ∧ x.1.length ≤ c ∧ v1 = .slice (some ⟨b, off, none⟩) x.1.length c ∧ RelC E fz w b off (x.1.flatMap fun s : Int × Int => encT tSpan s) := h1
  have hv : SpIn x.1 v1 w := by
    rcases h1 with ⟨h0, a, c, rfl⟩ | ⟨b, off, c, k1, k2, rfl, k3⟩
    · exact .inl ⟨List.eq_nil_of_length_eq_zero h0, a, c, rfl⟩
    · obtain ⟨vs, r1, r2, r3⟩ := k3.read
      have hfl := rel_flat x.1 vs r1
      subst hfl
      exact .inr ⟨b, off, c, rfl, k2, st.fzlt b k1, r3⟩
  exact with_walk hd hJ x.1 x.2 hx.1 hx.2 v1 w st hv
end Go.Proofs
