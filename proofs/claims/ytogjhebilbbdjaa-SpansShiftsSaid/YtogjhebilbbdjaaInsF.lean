/- A row of spans, copied by the library's Clone, walked. Conditions: none. -/
import Derived.Test.YtogjhebilbbdjaaInsE
import Derived.Lib.Hide
set_option linter.unusedVariables false
set_option linter.unusedSimpArgs false
namespace Go.Proofs
open Go.RowKit Go.Shelf Go.Vc Go.Fu
/-- A row of spans that came in. -/
def SpIn (l : List (Int × Int)) (v : Value) (w : World) : Prop :=
  (l = [] ∧ ∃ a c, v = .slice a 0 c) ∨ ∃ b off c, v = .slice (some ⟨b, off, none⟩) l.length c ∧ l.length ≤ c ∧ b < w.heap.size ∧ FlAt w b off (flat l)
theorem bin_nil (a : Option Addr) (n c : Nat) (W : World) : (binOp .eql 22 (.slice a n c) (.slice none 0 0)).run Try.prog W = .ok (.bool a.isNone) W := by
  simp only [binOp]
  simp [run_equal_slice_nil W 22 24 a n c Try.underlying22]
set_option maxHeartbeats 4000000 in
set_option maxRecDepth 100000 in
theorem clone_nil (c : Nat) (w : World) : Calls Try.prog 26 #[.slice none 0 c] w fun e w' => e = .returned (.slice none 0 0) ∧ w' = w := by
  have hb := bin_nil none 0 c
  go_enter Try.func26, Try.ntmps26
  go_wp2
  go_ret
  exact ⟨rfl, rfl⟩
set_option maxHeartbeats 4000000 in
set_option maxRecDepth 100000 in
theorem clone_some (b off n c : Nat) (cs : List Value) (w : World) (hbig : n ≤ 100000) (hcl : cs.length = n * 2) (hlt : b < w.heap.size) (hcs : FlAt w b off cs) (h1 : ∀ v ∈ cs, v.oneCell' = true) : Calls Try.prog 26 #[.slice (some ⟨b, off, none⟩) n c] w fun e w' => ∃ v, e = .returned v ∧ Below w.heap.size w w' ∧
    ((n = 0 ∧ ∃ a, v = .slice a 0 0) ∨ ∃ (cap : Nat) (rest : List Value) (bN : Nat), v = .slice (some ⟨bN, 0, none⟩) n cap ∧ n ≤ cap ∧ cap ≤ 9223372036854775807 ∧ rest.length = (cap - n) * 2 ∧ w.heap.size ≤ bN ∧ w'.heap[bN]? = some (.cells (cs ++ rest).toArray 24 (0, 0))) := by
  have hb := bin_nil (some ⟨b, off, none⟩) n c
  obtain ⟨i0, hi0, hz0, hby, z, hz, hzc⟩ := span_info
  obtain ⟨W, hW⟩ : ∃ W, W = w.alloc (.cells #[] 24) := ⟨_, rfl⟩
  have bW : Below w.heap.size w W := by rw [hW]; exact (Below.refl _ w).alloc (Nat.le_refl _) _
  have sW : w.heap.size < W.heap.size := by rw [hW]; show w.heap.size < (w.heap.push _).size; rw [Array.size_push]; omega
  have hcs' : FlAt W b off cs := fun j v hj => by
    rw [World.cell?_of_block (a := ⟨b, off + j, none⟩) (bW.block b hlt)]; exact hcs j v hj
  by_cases hn : n = 0
  · subst hn
    have hrun : ∀ ty, (Builtin.append_ #[22, 22] ty #[.slice (some ⟨w.heap.size, 0, none⟩) 0 0, .slice (some ⟨b, off, none⟩) 0 c]).run Try.prog W = .ok (.slice (some ⟨w.heap.size, 0, none⟩) 0 0) W := fun ty => by
      rw [run_append_in (P := Try.prog) (w := W) (base := some ⟨w.heap.size, 0, none⟩) (sLen := 0) (sCap := 0) (n := 0) (news := []) (i := i0) (t := 22) (u := 22) rfl rfl rfl rfl Try.underlying22 Try.underlying22 (.inl ⟨_, rfl⟩) hi0 (by simp [Builtin.lenOf])
        (run_firstCells_some (P := Try.prog) W i0.size 0 ⟨b, off, none⟩ 0 c [] (by simp) fun j v hj => by simp at hj) (by omega)]
      rfl
    rw [hW] at hrun bW
    go_enter Try.func26, Try.ntmps26
    go_wp2_with (at_builtin; refine Lib.wpList_append_run _ rfl _ _ _ _ rfl _ _ rfl rfl _ _ (hrun _) ?_)
    go_ret
    exact ⟨_, rfl, bW, .inl ⟨trivial, _, rfl⟩⟩
  · have hcell : ∀ w' : World, w'.heap = W.heap → ∀ a : Addr, w'.cell? a = W.cell? a := fun w' hw a => by unfold World.cell?; rw [hw]
    obtain ⟨w1, rest, cap, ⟨k1, k0⟩, k2, k3, k4, k5, k6, k7⟩ := run_append_newc (P := Try.prog) (w := W) (ats := #[22, 22]) (ty := 22) (args := #[.slice (some ⟨w.heap.size, 0, none⟩) 0 0, .slice (some ⟨b, off, none⟩) n c]) (base := some ⟨w.heap.size, 0, none⟩) (sLen := 0) (sCap := 0) (n := n) (olds := []) (news := cs) (i := i0) (z := z) (t := 22) (u := 22) rfl rfl rfl rfl Try.underlying22 Try.underlying22 (.inl ⟨_, rfl⟩) hi0 hz (by rw [hby]; decide)
      (fun w' => by simp [Builtin.lenOf]) (fun w' hw => run_firstCells_some (P := Try.prog) w' i0.size n ⟨b, off, none⟩ n c cs (by rw [hcl, hz0]) fun j v hj => by rw [Addr.add_lit, hcell w' hw]; exact hcs' j v hj)
      (fun w' hw => run_firstCells_some (P := Try.prog) w' i0.size 0 ⟨w.heap.size, 0, none⟩ 0 0 [] (by simp) fun j v hj => by simp at hj) (by omega) (by rw [hby]; omega)
    have k8 : ∃ bN, bN = W.heap.size := ⟨_, rfl⟩
    obtain ⟨bN, hbN⟩ := k8
    rw [← hbN] at k3
    have kg : w1.heap[bN]? = some (.cells (cs ++ rest).toArray 24 (0, 0)) := by rw [k4, hbN]; exact Array.getElem?_push_size
    have kb : Below w.heap.size w w1 := bW.trans ⟨k5, k7.1, k6, by rw [k4]; simp, fun k hk => by rw [k4, Array.getElem?_push_lt (by omega)]; simp [show k < W.heap.size by omega]⟩
    have kl : w.heap.size ≤ bN := by omega
    simp only [Nat.zero_add] at k1 k2 k3
    rw [hzc] at k2
    have HK := Lib.hid k2
    have HG := Lib.hid kg
    clear k2 kg hbN k4 k5 k6 k7
    rw [hW] at k3
    clear hcs hcs' sW bW hcell h1 hW
    go_enter Try.func26, Try.ntmps26
    go_wp2_with (at_builtin; refine Lib.wpList_append_run _ rfl _ _ _ _ rfl _ _ rfl rfl _ _ k3 ?_)
    go_ret
    exact ⟨_, rfl, kb, .inr ⟨cap, rest, bN, rfl, k1, k0, HK.out, kl, HG.out⟩⟩
end Go.Proofs
