/- Where a span is put into a row of spans: the library's binary search, walked. Conditions: none. -/
import Derived.Test.YtogjhebilbbdjaaProg
import Derived.Test.YtogjhebilbbdjaaVyR
import Derived.Test.YtogjhebilbbdjaaVpRJ
import Derived.WalkKit
import Derived.Shelf.RegionOpenPlain
import Derived.Lib.Walk
import Derived.Laws.Shifts
import Derived.Shelf.SlSortCmp.QuietGrown
import Derived.Deep.LoopGhost
import Derived.Deep.Draws
import Derived.Sort.Walk0
set_option linter.unusedVariables false
set_option linter.unusedSimpArgs false
namespace Go.Proofs
open Go.RowKit Go.Shelf
/-- A row of spans in memory. -/
def SpAt (w : World) (b off : Nat) (l : List (Int × Int)) : Prop := ∀ (j : Nat) (s : Int × Int), l[j]? = some s → w.cell? ⟨b, off + j * 2, none⟩ = some (.int .i64 s.1) ∧ w.cell? ⟨b, off + j * 2 + 1, none⟩ = some (.int .i64 s.2)
theorem SpAt.below {n : Nat} {w w' : World} {b off : Nat} {l : List (Int × Int)} (h : SpAt w b off l) (hb : Below n w w') (hn : b < n) : SpAt w' b off l := fun j s hj => by
  have e : ∀ o, w'.cell? ⟨b, o, none⟩ = w.cell? ⟨b, o, none⟩ := fun o => World.cell?_of_block (a := ⟨b, o, none⟩) (hb.block b hn)
  rw [e, e]; exact h j s hj
set_option maxHeartbeats 2000000 in
set_option maxRecDepth 100000 in
theorem by_lo (a c lo : Int) (ha : -1000000 ≤ a ∧ a ≤ 1000000) (hl : -1000000 ≤ lo ∧ lo ≤ 1000000) (w : World) : Calls Try.prog 23 #[.agg #[.int .i64 a, .int .i64 c], .int .i64 lo] w fun e w' => e = .returned (.int .i64 (a - lo)) ∧ Below w.heap.size w w' := by
  have hw : IntKind.i64.wrap (a - lo) = a - lo := by rw [IntKind.wrap_i64]; omega
  go_enter Try.func23, Try.ntmps23
  go_wp2
  go_ret
  refine ⟨rfl, ?_⟩
  exact (Below.refl _ w).alloc (Nat.le_refl _) _
set_option maxHeartbeats 4000000 in
set_option maxRecDepth 100000 in
theorem bsearch (l : List (Int × Int)) (lo : Int) (hlo : -1000000 ≤ lo ∧ lo ≤ 1000000) (hl : ∀ s ∈ l, -1000000 ≤ s.1 ∧ s.1 ≤ 1000000) (hn : l.length ≤ 1000000) (asc : ∀ i j : Nat, i ≤ j → ∀ s t, l[i]? = some s → l[j]? = some t → s.1 ≤ t.1)
    (b off c : Nat) (w : World) (hb : b < w.heap.size) (hs : SpAt w b off l) :
    Calls Try.prog 22 #[.slice (some ⟨b, off, none⟩) l.length c, .int .i64 lo, .func (.func 23) #[] #[]] w fun e w' => ∃ (i : Nat) (f : Bool), e = .returned (.tuple #[.int .i64 i, .bool f]) ∧ i ≤ l.length ∧ (∀ j s, j < i → l[j]? = some s → s.1 < lo) ∧ (∀ j s, i ≤ j → l[j]? = some s → lo ≤ s.1) ∧ Below w.heap.size w w' := by
  go_enter Try.func22, Try.ntmps22
  go_wp2
  go_loopw [9, 10] (fun vi vj wr => ∃ i j : Nat, i ≤ j ∧ j ≤ l.length ∧ vi = .int .i64 i ∧ vj = .int .i64 j ∧ (∀ k s, k < i → l[k]? = some s → s.1 < lo) ∧ (∀ k s, j ≤ k → l[k]? = some s → lo ≤ s.1) ∧ Below w.heap.size w wr)
    (fun i j _ => (intOf j).toNat - (intOf i).toNat)
  case atStart => exact ⟨0, l.length, Nat.zero_le _, Nat.le_refl _, rfl, rfl, fun k s h => absurd h (Nat.not_lt_zero _), fun k s h q => (by rw [List.getElem?_eq_none h] at q; cases q), Below.refl _ _⟩
  case round =>
    obtain ⟨i, j, hij, hj, rfl, rfl, h1, h2, hbw⟩ := hrel
    have hsr := hs.below hbw hb
    by_cases hlt : i < j
    · obtain ⟨h, hh⟩ : ∃ h : Nat, h = (i + j) / 2 := ⟨_, rfl⟩
      have hm : i ≤ h ∧ h < j := by omega
      obtain ⟨s, hsx⟩ : ∃ s, l[h]? = some s := ⟨_, List.getElem?_eq_getElem (by omega)⟩
      obtain ⟨c0, c1⟩ := hsr h s hsx
      have hsl := hl s (List.mem_of_getElem? hsx)
      have hcl := fun W => by_lo s.1 s.2 lo hsl hlo W
      have he : ((i : Int) + (j : Int)) / 2 = (h : Int) := by omega
      have hsf : Op.shift .shr .u64 ((i : Int) + (j : Int)) .u64 1 = pure (.int .u64 (h : Int)) := by
        rw [shift_shr_any _ _ _ _ (by decide), ← he]; rfl
      have hm1 : i ≤ h := hm.1
      have hm2 : h < l.length := by omega
      have hm3 : h < j := hm.2
      have hcv : IntKind.i64.wrap (h : Int) = h := by rw [IntKind.wrap_i64]; omega
      have A1 : Hid _ := asc
      have A2 : Hid _ := h1
      have A3 : Hid _ := h2
      have A4 : Hid _ := hsx
      clear asc h1 h2 hsx hm hh
      by_cases hc : s.1 - lo < 0
      · go_wp2_with (go_at_call 23; refine (hcl _).mono ?_; rintro e w' ⟨rfl, hb1⟩)
        go_roundw
        case rel =>
          refine ⟨h + 1, j, by omega, hj, by simp, rfl, fun k u hk hu => ?_, A3.out, hbw.trans (hb1.mono hbw.size)⟩
          have := A1.out k h (by omega) u s hu A4.out
          omega
        case measure => simp [intOf]; omega
      · go_wp2_with (go_at_call 23; refine (hcl _).mono ?_; rintro e w' ⟨rfl, hb1⟩)
        go_roundw
        case rel =>
          refine ⟨i, h, by omega, by omega, rfl, rfl, A2.out, fun k u hk hu => ?_, hbw.trans (hb1.mono hbw.size)⟩
          have := A1.out h k hk s u A4.out hu
          omega
        case measure => simp [intOf]; omega
    · obtain rfl : i = j := by omega
      have A1 : Hid _ := asc
      have A2 : Hid _ := h1
      have A3 : Hid _ := h2
      clear asc h1 h2
      by_cases hin : i < l.length
      · obtain ⟨s, hsx⟩ : ∃ s, l[i]? = some s := ⟨_, List.getElem?_eq_getElem hin⟩
        obtain ⟨c0, c1⟩ := hsr i s hsx
        have hsl := hl s (List.mem_of_getElem? hsx)
        have hcl := fun W => by_lo s.1 s.2 lo hsl hlo W
        clear hsx
        go_wp2_with (go_at_call 23; refine (hcl _).mono ?_; rintro e w' ⟨rfl, hb1⟩)
        go_ret2
        exact ⟨i, _, rfl, hj, A2.out, A3.out, hbw.trans (hb1.mono hbw.size)⟩
      · go_wp2
        go_ret2
        exact ⟨i, _, rfl, hj, A2.out, A3.out, hbw⟩
end Go.Proofs
