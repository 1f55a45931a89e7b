/- Part of the proof of crewFinds_holds: the whole is true of every input. Conditions: none. -/
import Derived.Test.YtpbbahplbgmbcaaP1
import Derived.Conc.WgGenN
set_option linter.all false
section
namespace Go.Vk
open Go.Conc Go.RowKit Go.Conc.Lib Go.ConcR.Gen
open Go.ConcR (KK wgBlock WgAt stA smA rd wr mk)
open Go.ConcN (WgLive)
set_option maxRecDepth 100000 in
set_option maxHeartbeats 8000000 in
theorem add_down {P : Program} {L : WgLink} (H : WgLib P L) {main : Bool} {J : World → Prop} {Wg : Nat} (hJ : ∀ w, J w → WgLive L.tWg Wg w) {c : Frame} {cs : List Frame} {Z0 Z1 Z2 Z3 Z4 Z5 Zr : Goroutine → Prop}
    (hZ0 : Back P main J Z0) (h0 : ∀ g, MarkAt P main J (.releaseMerge (stA Wg)) Z1 g → Z0 g)
    (hZ1 : Back P main J Z1) (h1 : ∀ g, MarkAt P main J .disable Z2 g → Z1 g)
    (hZ2 : Back P main J Z2) (h2 : ∀ g, AddAt P main J L.tWg Wg (-KK) DnOk (fun y g => (y = 1 → Z3 g) ∧ (y ≠ 1 → Zr g)) g → Z2 g)
    (hZ3 : Back P main J Z3) (h3 : ∀ g, LoadAt P main J L.tWg Wg (· = 1) (fun _ => Z4) g → Z3 g)
    (hZ4 : Back P main J Z4) (h4 : ∀ g, StoreAt P main J L.tWg Wg 0 Z5 g → Z4 g)
    (hZ5 : Back P main J Z5) (h5 : ∀ g, SemrelAt P main J L.tWg Wg Zr g → Z5 g)
    (hZr : Back P main (fun _ => True) Zr) (hr : ∀ tmps todo, Zr (G { (base L.add).at ⟨tmps, [dcall L.enable #[]]⟩ todo with mode := .returning } (c :: cs))) :
    Z0 (G (Frame.enter P L.add #[.pointer (some ⟨Wg, 0, none⟩), .int .i64 (-1)] .normal) (c :: cs)) := by
  lib_facts
  rw [enter_at _ H.f_add (show (addFn L).body = some (body_add L) from rfl)]
  simp only [body_add, addFn, Option.getD_some]
  walk_nrm
  repeat first
    | with_reducible refine Back.seq hZ0 ?_
    | with_reducible refine Back.rend hZ0 ?_
    | with_reducible refine Back.skip hZ0 ?_
    | with_reducible refine Back.block hZ0 ?_
    | with_reducible refine Back.loop hZ0 ?_
    | with_reducible refine Back.inBlock hZ0 ?_
    | with_reducible refine Back.inLoop hZ0 ?_
    | with_reducible refine Back.ret hZ0 ?_
    | with_reducible refine Back.fin hZ0 ?_
    | refine Back.exit hZ0 rfl ?_
    | ((with_reducible refine Back.condT hZ0 ?_ ?_); (focus exact rfl))
    | ((with_reducible refine Back.condF hZ0 ?_ ?_); (focus exact rfl))
    | ((with_reducible refine Back.region hZ0 ?_); simp only [List.size_toArray, List.length_cons, List.length_nil, Nat.reduceAdd, Nat.zero_add, List.range, List.range.loop])
    | (refine hZ0.unwanted rfl rfl ?_; walk_nrm)
    | (refine hZ0.value rfl rfl (by k_ne) (fun w hw => by go_simp <;> rfl) (fun w hw => by simp [go_sem, *]) ?_; walk_nrm; try w_num)
    | (refine hZ0.defer rfl rfl (by k_ne) rfl ?_; walk_nrm)
    | (refine hZ0.call rfl rfl (by k_ne) rfl H.f_uAdd (nm_uAdd L) rfl ?_; walk_nrmf uAddFn)
    | (refine hZ0.leave1 rfl rfl H.f_uAdd rfl ?_; walk_nrm)
    | (refine hZ0.bub (.bool false) rfl rfl (by k_ne) rfl H.f_inBubble (x_inBubble_n L) (x_inBubble_b L) (x_inBubble_x L) (x_inBubble_f L) ?_; walk_nrm)
  refine hZ0.value rfl rfl (by k_ne) (fun w hw => by
    have hcv := run_convert_to_unsafe (P := P) H.underlying_tWgP H.underlying_tUP H.room_tWg (Go.ConcN.Gen.WgLive.cell0 (hJ w hw)).choose_spec
    go_simp <;> rfl) (fun w hw => by
    have hce := fun es => events_convert_to_unsafe (P := P) H.underlying_tWgP H.underlying_tUP H.room_tWg (Go.ConcN.Gen.WgLive.cell0 (hJ w hw)).choose_spec es
    simp [go_sem, hce]) ?_
  walk_nrm
  refine h0 _ ⟨rfl, _, fun w hw => stepG_markAt .releaseMerge (by simp) rfl rfl (by k_ne) rfl H.f_relMerge (x_relMerge_n L) (x_relMerge_b L) (x_relMerge_x L) (x_relMerge_f L) (by simp [Act.eval, stA]), ?_⟩
  walk_nrm
  repeat first
    | with_reducible refine Back.seq hZ1 ?_
    | with_reducible refine Back.rend hZ1 ?_
    | with_reducible refine Back.skip hZ1 ?_
    | with_reducible refine Back.block hZ1 ?_
    | with_reducible refine Back.loop hZ1 ?_
    | with_reducible refine Back.inBlock hZ1 ?_
    | with_reducible refine Back.inLoop hZ1 ?_
    | with_reducible refine Back.ret hZ1 ?_
    | with_reducible refine Back.fin hZ1 ?_
    | refine Back.exit hZ1 rfl ?_
    | ((with_reducible refine Back.condT hZ1 ?_ ?_); (focus exact rfl))
    | ((with_reducible refine Back.condF hZ1 ?_ ?_); (focus exact rfl))
    | ((with_reducible refine Back.region hZ1 ?_); simp only [List.size_toArray, List.length_cons, List.length_nil, Nat.reduceAdd, Nat.zero_add, List.range, List.range.loop])
    | (refine hZ1.unwanted rfl rfl ?_; walk_nrm)
    | (refine hZ1.value rfl rfl (by k_ne) (fun w hw => by go_simp <;> rfl) (fun w hw => by simp [go_sem, *]) ?_; walk_nrm; try w_num)
    | (refine hZ1.defer rfl rfl (by k_ne) rfl ?_; walk_nrm)
    | (refine hZ1.call rfl rfl (by k_ne) rfl H.f_uAdd (nm_uAdd L) rfl ?_; walk_nrmf uAddFn)
    | (refine hZ1.leave1 rfl rfl H.f_uAdd rfl ?_; walk_nrm)
    | (refine hZ1.bub (.bool false) rfl rfl (by k_ne) rfl H.f_inBubble (x_inBubble_n L) (x_inBubble_b L) (x_inBubble_x L) (x_inBubble_f L) ?_; walk_nrm)
  refine h1 _ ⟨rfl, _, fun w hw => stepG_mark0 .disable (by simp) rfl rfl (by k_ne) rfl H.f_disable (x_disable_n L) (x_disable_b L) (x_disable_x L) (x_disable_f L), ?_⟩
  walk_nrm
  repeat first
    | with_reducible refine Back.seq hZ2 ?_
    | with_reducible refine Back.rend hZ2 ?_
    | with_reducible refine Back.skip hZ2 ?_
    | with_reducible refine Back.block hZ2 ?_
    | with_reducible refine Back.loop hZ2 ?_
    | with_reducible refine Back.inBlock hZ2 ?_
    | with_reducible refine Back.inLoop hZ2 ?_
    | with_reducible refine Back.ret hZ2 ?_
    | with_reducible refine Back.fin hZ2 ?_
    | refine Back.exit hZ2 rfl ?_
    | ((with_reducible refine Back.condT hZ2 ?_ ?_); (focus exact rfl))
    | ((with_reducible refine Back.condF hZ2 ?_ ?_); (focus exact rfl))
    | ((with_reducible refine Back.region hZ2 ?_); simp only [List.size_toArray, List.length_cons, List.length_nil, Nat.reduceAdd, Nat.zero_add, List.range, List.range.loop])
    | (refine hZ2.unwanted rfl rfl ?_; walk_nrm)
    | (refine hZ2.value rfl rfl (by k_ne) (fun w hw => by go_simp <;> rfl) (fun w hw => by simp [go_sem, *]) ?_; walk_nrm; try w_num)
    | (refine hZ2.defer rfl rfl (by k_ne) rfl ?_; walk_nrm)
    | (refine hZ2.call rfl rfl (by k_ne) rfl H.f_uAdd (nm_uAdd L) rfl ?_; walk_nrmf uAddFn)
    | (refine hZ2.leave1 rfl rfl H.f_uAdd rfl ?_; walk_nrm)
    | (refine hZ2.bub (.bool false) rfl rfl (by k_ne) rfl H.f_inBubble (x_inBubble_n L) (x_inBubble_b L) (x_inBubble_x L) (x_inBubble_f L) ?_; walk_nrm)
  refine h2 _ ⟨rfl, fun x hx => ?_⟩
  obtain ⟨v, wt, hv, hwt, rfl⟩ := hx
  have ew : IntKind.u64.wrap (((v : Int) + 1) * KK + wt + 18446744069414584320) = ((v : Int) + 1) * KK + wt + -KK := by simp only [KK, IntKind.wrap_u64]; omega
  refine ⟨_, fun w sm hw hat => (stepG_add_atomic rfl rfl (by k_ne) rfl H.f_addU64 (x_addU64_n L) (x_addU64_b L) (x_addU64_x L) .u64 (x_addU64_f L) rfl rfl hat.cellSt (hat.thaw 0)).trans (by rw [ew]; rfl), ?_⟩
  have ex : ((v : Int) + 1) * KK + wt + -KK = (v : Int) * 4294967296 + wt := by simp only [KK]; omega
  rw [ex]
  clear ew ex
  rcases Nat.eq_zero_or_pos v with rfl | hvp <;> (obtain rfl | rfl : wt = 0 ∨ wt = 1 := by omega)
  · have z : ((0 : Nat) : Int) * 4294967296 + ((0 : Nat) : Int) = 0 := by simp
    rw [z]
    refine ⟨fun h => absurd h (by decide), fun _ => ?_⟩
    walk_nrm
    repeat first
      | with_reducible refine Back.seq hZr ?_
      | with_reducible refine Back.rend hZr ?_
      | with_reducible refine Back.skip hZr ?_
      | with_reducible refine Back.block hZr ?_
      | with_reducible refine Back.loop hZr ?_
      | with_reducible refine Back.inBlock hZr ?_
      | with_reducible refine Back.inLoop hZr ?_
      | with_reducible refine Back.ret hZr ?_
      | with_reducible refine Back.fin hZr ?_
      | refine Back.exit hZr rfl ?_
      | ((with_reducible refine Back.condT hZr ?_ ?_); (focus exact rfl))
      | ((with_reducible refine Back.condF hZr ?_ ?_); (focus exact rfl))
      | ((with_reducible refine Back.region hZr ?_); simp only [List.size_toArray, List.length_cons, List.length_nil, Nat.reduceAdd, Nat.zero_add, List.range, List.range.loop])
      | (refine hZr.unwanted rfl rfl ?_; walk_nrm)
      | (refine hZr.value rfl rfl (by k_ne) (fun w hw => by go_simp <;> rfl) (fun w hw => by simp [go_sem, *]) ?_; walk_nrm; try w_num)
      | (refine hZr.defer rfl rfl (by k_ne) rfl ?_; walk_nrm)
      | (refine hZr.call rfl rfl (by k_ne) rfl H.f_uAdd (nm_uAdd L) rfl ?_; walk_nrmf uAddFn)
      | (refine hZr.leave1 rfl rfl H.f_uAdd rfl ?_; walk_nrm)
      | (refine hZr.bub (.bool false) rfl rfl (by k_ne) rfl H.f_inBubble (x_inBubble_n L) (x_inBubble_b L) (x_inBubble_x L) (x_inBubble_f L) ?_; walk_nrm)

    exact hr _ _
  · have z : ((0 : Nat) : Int) * 4294967296 + ((1 : Nat) : Int) = 1 := by simp
    rw [z]
    refine ⟨fun _ => ?_, fun h => absurd rfl h⟩
    walk_nrm
    repeat first
      | with_reducible refine Back.seq hZ3 ?_
      | with_reducible refine Back.rend hZ3 ?_
      | with_reducible refine Back.skip hZ3 ?_
      | with_reducible refine Back.block hZ3 ?_
      | with_reducible refine Back.loop hZ3 ?_
      | with_reducible refine Back.inBlock hZ3 ?_
      | with_reducible refine Back.inLoop hZ3 ?_
      | with_reducible refine Back.ret hZ3 ?_
      | with_reducible refine Back.fin hZ3 ?_
      | refine Back.exit hZ3 rfl ?_
      | ((with_reducible refine Back.condT hZ3 ?_ ?_); (focus exact rfl))
      | ((with_reducible refine Back.condF hZ3 ?_ ?_); (focus exact rfl))
      | ((with_reducible refine Back.region hZ3 ?_); simp only [List.size_toArray, List.length_cons, List.length_nil, Nat.reduceAdd, Nat.zero_add, List.range, List.range.loop])
      | (refine hZ3.unwanted rfl rfl ?_; walk_nrm)
      | (refine hZ3.value rfl rfl (by k_ne) (fun w hw => by go_simp <;> rfl) (fun w hw => by simp [go_sem, *]) ?_; walk_nrm; try w_num)
      | (refine hZ3.defer rfl rfl (by k_ne) rfl ?_; walk_nrm)
      | (refine hZ3.call rfl rfl (by k_ne) rfl H.f_uAdd (nm_uAdd L) rfl ?_; walk_nrmf uAddFn)
      | (refine hZ3.leave1 rfl rfl H.f_uAdd rfl ?_; walk_nrm)
      | (refine hZ3.call rfl rfl (by k_ne) rfl H.f_uLoad (nm_uLoad L) rfl ?_; walk_nrmf uLoadFn)
      | (refine hZ3.leave1 rfl rfl H.f_uLoad rfl ?_; walk_nrm)
      | (refine hZ3.bub (.bool false) rfl rfl (by k_ne) rfl H.f_inBubble (x_inBubble_n L) (x_inBubble_b L) (x_inBubble_x L) (x_inBubble_f L) ?_; walk_nrm)

    refine h3 _ ⟨rfl, fun x hx => ?_⟩
    subst hx
    refine ⟨_, fun w sm hw hat => stepG_load_atomic rfl rfl (by k_ne) rfl H.f_loadU64 (x_loadU64_n L) (x_loadU64_b L) (x_loadU64_x L) .u64 (x_loadU64_f L) rfl hat.cellSt, ?_⟩
    walk_nrm
    repeat first
      | with_reducible refine Back.seq hZ4 ?_
      | with_reducible refine Back.rend hZ4 ?_
      | with_reducible refine Back.skip hZ4 ?_
      | with_reducible refine Back.block hZ4 ?_
      | with_reducible refine Back.loop hZ4 ?_
      | with_reducible refine Back.inBlock hZ4 ?_
      | with_reducible refine Back.inLoop hZ4 ?_
      | with_reducible refine Back.ret hZ4 ?_
      | with_reducible refine Back.fin hZ4 ?_
      | refine Back.exit hZ4 rfl ?_
      | ((with_reducible refine Back.condT hZ4 ?_ ?_); (focus exact rfl))
      | ((with_reducible refine Back.condF hZ4 ?_ ?_); (focus exact rfl))
      | ((with_reducible refine Back.region hZ4 ?_); simp only [List.size_toArray, List.length_cons, List.length_nil, Nat.reduceAdd, Nat.zero_add, List.range, List.range.loop])
      | (refine hZ4.unwanted rfl rfl ?_; walk_nrm)
      | (refine hZ4.value rfl rfl (by k_ne) (fun w hw => by go_simp <;> rfl) (fun w hw => by simp [go_sem, *]) ?_; walk_nrm; try w_num)
      | (refine hZ4.defer rfl rfl (by k_ne) rfl ?_; walk_nrm)
      | (refine hZ4.call rfl rfl (by k_ne) rfl H.f_uAdd (nm_uAdd L) rfl ?_; walk_nrmf uAddFn)
      | (refine hZ4.leave1 rfl rfl H.f_uAdd rfl ?_; walk_nrm)
      | (refine hZ4.call rfl rfl (by k_ne) rfl H.f_uLoad (nm_uLoad L) rfl ?_; walk_nrmf uLoadFn)
      | (refine hZ4.leave1 rfl rfl H.f_uLoad rfl ?_; walk_nrm)
      | (refine hZ4.call rfl rfl (by k_ne) rfl H.f_uStore (nm_uStore L) rfl ?_; walk_nrmf uStoreFn)
      | (refine hZ4.leave0 rfl rfl H.f_uStore rfl ?_; walk_nrm)
      | (refine hZ4.bub (.bool false) rfl rfl (by k_ne) rfl H.f_inBubble (x_inBubble_n L) (x_inBubble_b L) (x_inBubble_x L) (x_inBubble_f L) ?_; walk_nrm)

    refine h4 _ ⟨rfl, _, fun w x sm hw hat => stepG_store_atomic rfl rfl (by k_ne) rfl H.f_storeU64 (x_storeU64_n L) (x_storeU64_b L) (x_storeU64_x L) (x_storeU64_f L) rfl rfl hat.cellSt (hat.thaw 0), ?_⟩
    walk_nrm
    repeat first
      | with_reducible refine Back.seq hZ5 ?_
      | with_reducible refine Back.rend hZ5 ?_
      | with_reducible refine Back.skip hZ5 ?_
      | with_reducible refine Back.block hZ5 ?_
      | with_reducible refine Back.loop hZ5 ?_
      | with_reducible refine Back.inBlock hZ5 ?_
      | with_reducible refine Back.inLoop hZ5 ?_
      | with_reducible refine Back.ret hZ5 ?_
      | with_reducible refine Back.fin hZ5 ?_
      | refine Back.exit hZ5 rfl ?_
      | ((with_reducible refine Back.condT hZ5 ?_ ?_); (focus exact rfl))
      | ((with_reducible refine Back.condF hZ5 ?_ ?_); (focus exact rfl))
      | ((with_reducible refine Back.region hZ5 ?_); simp only [List.size_toArray, List.length_cons, List.length_nil, Nat.reduceAdd, Nat.zero_add, List.range, List.range.loop])
      | (refine hZ5.unwanted rfl rfl ?_; walk_nrm)
      | (refine hZ5.value rfl rfl (by k_ne) (fun w hw => by go_simp <;> rfl) (fun w hw => by simp [go_sem, *]) ?_; walk_nrm; try w_num)
      | (refine hZ5.defer rfl rfl (by k_ne) rfl ?_; walk_nrm)
      | (refine hZ5.call rfl rfl (by k_ne) rfl H.f_uAdd (nm_uAdd L) rfl ?_; walk_nrmf uAddFn)
      | (refine hZ5.leave1 rfl rfl H.f_uAdd rfl ?_; walk_nrm)
      | (refine hZ5.call rfl rfl (by k_ne) rfl H.f_uStore (nm_uStore L) rfl ?_; walk_nrmf uStoreFn)
      | (refine hZ5.leave0 rfl rfl H.f_uStore rfl ?_; walk_nrm)
      | (refine hZ5.bub (.bool false) rfl rfl (by k_ne) rfl H.f_inBubble (x_inBubble_n L) (x_inBubble_b L) (x_inBubble_x L) (x_inBubble_f L) ?_; walk_nrm)

    refine h5 _ ⟨rfl, mayWake_entry rfl rfl H.f_semrelease (x_semrelease_b L), _, fun w x hw hat => (stepG_semrelease rfl rfl (by k_ne) rfl H.f_semrelease (x_semrelease_n L) (x_semrelease_b L) (x_semrelease_x L) (x_semrelease_f L) (by simp [Act.eval, smA]) hat.cellSm (hat.thaw 1)).trans (by rfl), ?_⟩
    walk_nrm
    repeat first
      | with_reducible refine Back.seq hZr ?_
      | with_reducible refine Back.rend hZr ?_
      | with_reducible refine Back.skip hZr ?_
      | with_reducible refine Back.block hZr ?_
      | with_reducible refine Back.loop hZr ?_
      | with_reducible refine Back.inBlock hZr ?_
      | with_reducible refine Back.inLoop hZr ?_
      | with_reducible refine Back.ret hZr ?_
      | with_reducible refine Back.fin hZr ?_
      | refine Back.exit hZr rfl ?_
      | ((with_reducible refine Back.condT hZr ?_ ?_); (focus exact rfl))
      | ((with_reducible refine Back.condF hZr ?_ ?_); (focus exact rfl))
      | ((with_reducible refine Back.region hZr ?_); simp only [List.size_toArray, List.length_cons, List.length_nil, Nat.reduceAdd, Nat.zero_add, List.range, List.range.loop])
      | (refine hZr.unwanted rfl rfl ?_; walk_nrm)
      | (refine hZr.value rfl rfl (by k_ne) (fun w hw => by go_simp <;> rfl) (fun w hw => by simp [go_sem, *]) ?_; walk_nrm; try w_num)
      | (refine hZr.defer rfl rfl (by k_ne) rfl ?_; walk_nrm)
      | (refine hZr.call rfl rfl (by k_ne) rfl H.f_uAdd (nm_uAdd L) rfl ?_; walk_nrmf uAddFn)
      | (refine hZr.leave1 rfl rfl H.f_uAdd rfl ?_; walk_nrm)
      | (refine hZr.bub (.bool false) rfl rfl (by k_ne) rfl H.f_inBubble (x_inBubble_n L) (x_inBubble_b L) (x_inBubble_x L) (x_inBubble_f L) ?_; walk_nrm)

    exact hr _ _
  · have z : (v : Int) * 4294967296 + ((0 : Nat) : Int) = (v : Int) * 4294967296 := by simp
    have hb1 : bits .and .u64 ((v : Int) * 4294967296) 2147483648 = 0 := by have := Go.ConcN.st_flag v 0 (by omega) (by omega); simpa using this
    have hb2 : bits .and .u64 ((v : Int) * 4294967296) 2147483647 = 0 := by have := Go.ConcN.st_waiters v 0 (by omega) (by omega); simpa using this
    have hs : ((v : Int) * 4294967296).fdiv 4294967296 = v := by rw [Int.fdiv_eq_ediv_of_nonneg _ (by omega)]; omega
    have hs2 : ((v : Int) * 4294967296) / 4294967296 = v := by omega
    have hw1 : IntKind.i32.wrap (v : Int) = v := by rw [IntKind.wrap_i32]; omega
    have hw3 : decide ((v : Int) < 0) = false := by simp
    have hw4 : decide ((0 : Int) < v) = true := by simp; omega
    rw [z]
    refine ⟨fun h => by omega, fun _ => ?_⟩
    walk_nrm
    repeat first
      | with_reducible refine Back.seq hZr ?_
      | with_reducible refine Back.rend hZr ?_
      | with_reducible refine Back.skip hZr ?_
      | with_reducible refine Back.block hZr ?_
      | with_reducible refine Back.loop hZr ?_
      | with_reducible refine Back.inBlock hZr ?_
      | with_reducible refine Back.inLoop hZr ?_
      | with_reducible refine Back.ret hZr ?_
      | with_reducible refine Back.fin hZr ?_
      | refine Back.exit hZr rfl ?_
      | ((with_reducible refine Back.condT hZr ?_ ?_); (focus exact rfl))
      | ((with_reducible refine Back.condF hZr ?_ ?_); (focus exact rfl))
      | ((with_reducible refine Back.region hZr ?_); simp only [List.size_toArray, List.length_cons, List.length_nil, Nat.reduceAdd, Nat.zero_add, List.range, List.range.loop])
      | (refine hZr.unwanted rfl rfl ?_; walk_nrm)
      | (refine hZr.value rfl rfl (by k_ne) (fun w hw => by go_simp <;> rfl) (fun w hw => by simp [go_sem, *]) ?_; walk_nrm; try w_num)
      | (refine hZr.defer rfl rfl (by k_ne) rfl ?_; walk_nrm)
      | (refine hZr.call rfl rfl (by k_ne) rfl H.f_uAdd (nm_uAdd L) rfl ?_; walk_nrmf uAddFn)
      | (refine hZr.leave1 rfl rfl H.f_uAdd rfl ?_; walk_nrm)
      | (refine hZr.bub (.bool false) rfl rfl (by k_ne) rfl H.f_inBubble (x_inBubble_n L) (x_inBubble_b L) (x_inBubble_x L) (x_inBubble_f L) ?_; walk_nrm)

    exact hr _ _
  · have z : (v : Int) * 4294967296 + ((1 : Nat) : Int) = (v : Int) * 4294967296 + 1 := by simp
    have hb1 : bits .and .u64 ((v : Int) * 4294967296 + 1) 2147483648 = 0 := by have := Go.ConcN.st_flag v 1 (by omega) (by omega); simpa using this
    have hb2 : bits .and .u64 ((v : Int) * 4294967296 + 1) 2147483647 = 1 := by have := Go.ConcN.st_waiters v 1 (by omega) (by omega); simpa using this
    have hs : ((v : Int) * 4294967296 + 1).fdiv 4294967296 = v := by rw [Int.fdiv_eq_ediv_of_nonneg _ (by omega)]; omega
    have hs2 : ((v : Int) * 4294967296 + 1) / 4294967296 = v := by omega
    have hw1 : IntKind.i32.wrap (v : Int) = v := by rw [IntKind.wrap_i32]; omega
    have hw3 : decide ((v : Int) < 0) = false := by simp
    have hw4 : decide ((0 : Int) < v) = true := by simp; omega
    rw [z]
    refine ⟨fun h => by omega, fun _ => ?_⟩
    walk_nrm
    repeat first
      | with_reducible refine Back.seq hZr ?_
      | with_reducible refine Back.rend hZr ?_
      | with_reducible refine Back.skip hZr ?_
      | with_reducible refine Back.block hZr ?_
      | with_reducible refine Back.loop hZr ?_
      | with_reducible refine Back.inBlock hZr ?_
      | with_reducible refine Back.inLoop hZr ?_
      | with_reducible refine Back.ret hZr ?_
      | with_reducible refine Back.fin hZr ?_
      | refine Back.exit hZr rfl ?_
      | ((with_reducible refine Back.condT hZr ?_ ?_); (focus exact rfl))
      | ((with_reducible refine Back.condF hZr ?_ ?_); (focus exact rfl))
      | ((with_reducible refine Back.region hZr ?_); simp only [List.size_toArray, List.length_cons, List.length_nil, Nat.reduceAdd, Nat.zero_add, List.range, List.range.loop])
      | (refine hZr.unwanted rfl rfl ?_; walk_nrm)
      | (refine hZr.value rfl rfl (by k_ne) (fun w hw => by go_simp <;> rfl) (fun w hw => by simp [go_sem, *]) ?_; walk_nrm; try w_num)
      | (refine hZr.defer rfl rfl (by k_ne) rfl ?_; walk_nrm)
      | (refine hZr.call rfl rfl (by k_ne) rfl H.f_uAdd (nm_uAdd L) rfl ?_; walk_nrmf uAddFn)
      | (refine hZr.leave1 rfl rfl H.f_uAdd rfl ?_; walk_nrm)
      | (refine hZr.bub (.bool false) rfl rfl (by k_ne) rfl H.f_inBubble (x_inBubble_n L) (x_inBubble_b L) (x_inBubble_x L) (x_inBubble_f L) ?_; walk_nrm)

    exact hr _ _
end Go.Vk
end
section
namespace Go.Vk
open Go.Conc Go.RowKit Go.Conc.Lib Go.ConcR.Gen
open Go.ConcR (KK wgBlock WgAt stA smA rd wr mk)
open Go.ConcN (WgLive)
set_option maxRecDepth 100000 in
set_option maxHeartbeats 8000000 in
theorem add_up {P : Program} {L : WgLink} (H : WgLib P L) {main : Bool} {J : World → Prop} {Wg : Nat} (hJ : ∀ w, J w → WgLive L.tWg Wg w) {c : Frame} {cs : List Frame} {Z1 Z2 Z3 Z4 : Goroutine → Prop}
    (hZ1 : Back P main J Z1) (h1 : ∀ g, MarkAt P main J .disable Z2 g → Z1 g)
    (hZ2 : Back P main J Z2) (h2 : ∀ g, AddAt P main J L.tWg Wg KK UpOk (fun y g => (y = KK → Z3 g) ∧ (y ≠ KK → Z4 g)) g → Z2 g)
    (hZ3 : Back P main J Z3) (h3 : ∀ g, MarkAt P main J (.read (smA Wg)) Z4 g → Z3 g)
    (hZ4 : Back P main J Z4) (hr : ∀ tmps todo, Z4 (G { (base L.add).at ⟨tmps, [dcall L.enable #[]]⟩ todo with mode := .returning } (c :: cs))) :
    Z1 (G (Frame.enter P L.add #[.pointer (some ⟨Wg, 0, none⟩), .int .i64 1] .normal) (c :: cs)) := by
  lib_facts
  rw [enter_at _ H.f_add (show (addFn L).body = some (body_add L) from rfl)]
  simp only [body_add, addFn, Option.getD_some]
  walk_nrm
  repeat first
    | with_reducible refine Back.seq hZ1 ?_
    | with_reducible refine Back.rend hZ1 ?_
    | with_reducible refine Back.skip hZ1 ?_
    | with_reducible refine Back.block hZ1 ?_
    | with_reducible refine Back.loop hZ1 ?_
    | with_reducible refine Back.inBlock hZ1 ?_
    | with_reducible refine Back.inLoop hZ1 ?_
    | with_reducible refine Back.ret hZ1 ?_
    | with_reducible refine Back.fin hZ1 ?_
    | refine Back.exit hZ1 rfl ?_
    | ((with_reducible refine Back.condT hZ1 ?_ ?_); (focus exact rfl))
    | ((with_reducible refine Back.condF hZ1 ?_ ?_); (focus exact rfl))
    | ((with_reducible refine Back.region hZ1 ?_); simp only [List.size_toArray, List.length_cons, List.length_nil, Nat.reduceAdd, Nat.zero_add, List.range, List.range.loop])
    | (refine hZ1.unwanted rfl rfl ?_; walk_nrm)
    | (refine hZ1.value rfl rfl (by k_ne) (fun w hw => by go_simp <;> rfl) (fun w hw => by simp [go_sem, *]) ?_; walk_nrm; try w_num)
    | (refine hZ1.defer rfl rfl (by k_ne) rfl ?_; walk_nrm)
    | (refine hZ1.call rfl rfl (by k_ne) rfl H.f_uAdd (nm_uAdd L) rfl ?_; walk_nrmf uAddFn)
    | (refine hZ1.leave1 rfl rfl H.f_uAdd rfl ?_; walk_nrm)
    | (refine hZ1.bub (.bool false) rfl rfl (by k_ne) rfl H.f_inBubble (x_inBubble_n L) (x_inBubble_b L) (x_inBubble_x L) (x_inBubble_f L) ?_; walk_nrm)
  refine h1 _ ⟨rfl, _, fun w hw => stepG_mark0 .disable (by simp) rfl rfl (by k_ne) rfl H.f_disable (x_disable_n L) (x_disable_b L) (x_disable_x L) (x_disable_f L), ?_⟩
  walk_nrm
  repeat first
    | with_reducible refine Back.seq hZ2 ?_
    | with_reducible refine Back.rend hZ2 ?_
    | with_reducible refine Back.skip hZ2 ?_
    | with_reducible refine Back.block hZ2 ?_
    | with_reducible refine Back.loop hZ2 ?_
    | with_reducible refine Back.inBlock hZ2 ?_
    | with_reducible refine Back.inLoop hZ2 ?_
    | with_reducible refine Back.ret hZ2 ?_
    | with_reducible refine Back.fin hZ2 ?_
    | refine Back.exit hZ2 rfl ?_
    | ((with_reducible refine Back.condT hZ2 ?_ ?_); (focus exact rfl))
    | ((with_reducible refine Back.condF hZ2 ?_ ?_); (focus exact rfl))
    | ((with_reducible refine Back.region hZ2 ?_); simp only [List.size_toArray, List.length_cons, List.length_nil, Nat.reduceAdd, Nat.zero_add, List.range, List.range.loop])
    | (refine hZ2.unwanted rfl rfl ?_; walk_nrm)
    | (refine hZ2.value rfl rfl (by k_ne) (fun w hw => by go_simp <;> rfl) (fun w hw => by simp [go_sem, *]) ?_; walk_nrm; try w_num)
    | (refine hZ2.defer rfl rfl (by k_ne) rfl ?_; walk_nrm)
    | (refine hZ2.call rfl rfl (by k_ne) rfl H.f_uAdd (nm_uAdd L) rfl ?_; walk_nrmf uAddFn)
    | (refine hZ2.leave1 rfl rfl H.f_uAdd rfl ?_; walk_nrm)
    | (refine hZ2.bub (.bool false) rfl rfl (by k_ne) rfl H.f_inBubble (x_inBubble_n L) (x_inBubble_b L) (x_inBubble_x L) (x_inBubble_f L) ?_; walk_nrm)
  refine h2 _ ⟨rfl, fun x hx => ?_⟩
  obtain ⟨v, hv, rfl⟩ := hx
  have ew : IntKind.u64.wrap ((v : Int) * KK + 4294967296) = (v : Int) * KK + KK := by simp only [KK, IntKind.wrap_u64]; omega
  refine ⟨_, fun w sm hw hat => (stepG_add_atomic rfl rfl (by k_ne) rfl H.f_addU64 (x_addU64_n L) (x_addU64_b L) (x_addU64_x L) .u64 (x_addU64_f L) rfl rfl hat.cellSt (hat.thaw 0)).trans (by rw [ew]; rfl), ?_⟩
  clear ew
  rcases Nat.eq_zero_or_pos v with rfl | hvp
  · have z : ((0 : Nat) : Int) * KK + KK = 4294967296 := by simp [KK]
    rw [z]
    clear z
    refine ⟨fun hy => ?_, fun h => absurd rfl h⟩
    clear hy
    walk_nrm
    repeat first
      | with_reducible refine Back.seq hZ3 ?_
      | with_reducible refine Back.rend hZ3 ?_
      | with_reducible refine Back.skip hZ3 ?_
      | with_reducible refine Back.block hZ3 ?_
      | with_reducible refine Back.loop hZ3 ?_
      | with_reducible refine Back.inBlock hZ3 ?_
      | with_reducible refine Back.inLoop hZ3 ?_
      | with_reducible refine Back.ret hZ3 ?_
      | with_reducible refine Back.fin hZ3 ?_
      | refine Back.exit hZ3 rfl ?_
      | ((with_reducible refine Back.condT hZ3 ?_ ?_); (focus exact rfl))
      | ((with_reducible refine Back.condF hZ3 ?_ ?_); (focus exact rfl))
      | ((with_reducible refine Back.region hZ3 ?_); simp only [List.size_toArray, List.length_cons, List.length_nil, Nat.reduceAdd, Nat.zero_add, List.range, List.range.loop])
      | (refine hZ3.unwanted rfl rfl ?_; walk_nrm)
      | (refine hZ3.value rfl rfl (by k_ne) (fun w hw => by go_simp <;> rfl) (fun w hw => by simp [go_sem, *]) ?_; walk_nrm; try w_num)
      | (refine hZ3.defer rfl rfl (by k_ne) rfl ?_; walk_nrm)
      | (refine hZ3.call rfl rfl (by k_ne) rfl H.f_uAdd (nm_uAdd L) rfl ?_; walk_nrmf uAddFn)
      | (refine hZ3.leave1 rfl rfl H.f_uAdd rfl ?_; walk_nrm)
      | (refine hZ3.bub (.bool false) rfl rfl (by k_ne) rfl H.f_inBubble (x_inBubble_n L) (x_inBubble_b L) (x_inBubble_x L) (x_inBubble_f L) ?_; walk_nrm)
    refine hZ3.value rfl rfl (by k_ne) (fun w hw => by
      have hcv := run_convert_to_unsafe (P := P) H.underlying_tPU32 H.underlying_tUP H.room_tU32 (Go.ConcN.Gen.WgLive.cell1 (hJ w hw)).choose_spec
      go_simp <;> rfl) (fun w hw => by
      have hce := fun es => events_convert_to_unsafe (P := P) H.underlying_tPU32 H.underlying_tUP H.room_tU32 (Go.ConcN.Gen.WgLive.cell1 (hJ w hw)).choose_spec es
      simp [go_sem, hce]) ?_
    walk_nrm
    refine h3 _ ⟨rfl, _, fun w hw => stepG_markAt .read (by simp) rfl rfl (by k_ne) rfl H.f_raceRead (x_raceRead_n L) (x_raceRead_b L) (x_raceRead_x L) (x_raceRead_f L) (by simp [Act.eval, smA]), ?_⟩
    walk_nrm
    repeat first
      | with_reducible refine Back.seq hZ4 ?_
      | with_reducible refine Back.rend hZ4 ?_
      | with_reducible refine Back.skip hZ4 ?_
      | with_reducible refine Back.block hZ4 ?_
      | with_reducible refine Back.loop hZ4 ?_
      | with_reducible refine Back.inBlock hZ4 ?_
      | with_reducible refine Back.inLoop hZ4 ?_
      | with_reducible refine Back.ret hZ4 ?_
      | with_reducible refine Back.fin hZ4 ?_
      | refine Back.exit hZ4 rfl ?_
      | ((with_reducible refine Back.condT hZ4 ?_ ?_); (focus exact rfl))
      | ((with_reducible refine Back.condF hZ4 ?_ ?_); (focus exact rfl))
      | ((with_reducible refine Back.region hZ4 ?_); simp only [List.size_toArray, List.length_cons, List.length_nil, Nat.reduceAdd, Nat.zero_add, List.range, List.range.loop])
      | (refine hZ4.unwanted rfl rfl ?_; walk_nrm)
      | (refine hZ4.value rfl rfl (by k_ne) (fun w hw => by go_simp <;> rfl) (fun w hw => by simp [go_sem, *]) ?_; walk_nrm; try w_num)
      | (refine hZ4.defer rfl rfl (by k_ne) rfl ?_; walk_nrm)
      | (refine hZ4.call rfl rfl (by k_ne) rfl H.f_uAdd (nm_uAdd L) rfl ?_; walk_nrmf uAddFn)
      | (refine hZ4.leave1 rfl rfl H.f_uAdd rfl ?_; walk_nrm)
      | (refine hZ4.bub (.bool false) rfl rfl (by k_ne) rfl H.f_inBubble (x_inBubble_n L) (x_inBubble_b L) (x_inBubble_x L) (x_inBubble_f L) ?_; walk_nrm)
    exact hr _ _
  · obtain ⟨u, hu1, hu2, hu3⟩ : ∃ u : Nat, 1 < u ∧ u < 2147483647 ∧ (v : Int) * KK + KK = (u : Int) * 4294967296 := ⟨v + 1, by omega, by omega, by simp only [KK]; omega⟩
    have hk : (u : Int) * 4294967296 ≠ KK := by simp only [KK]; omega
    rw [hu3]
    refine ⟨fun h => absurd h hk, fun _ => ?_⟩
    clear hu3 hk hv hvp
    have hup : 0 < u := by omega
    have hb1 : bits .and .u64 ((u : Int) * 4294967296) 2147483648 = 0 := by have := Go.ConcN.st_flag u 0 (by omega) (by omega); simpa using this
    have hb2 : bits .and .u64 ((u : Int) * 4294967296) 2147483647 = 0 := by have := Go.ConcN.st_waiters u 0 (by omega) (by omega); simpa using this
    have hs : ((u : Int) * 4294967296).fdiv 4294967296 = u := by rw [Int.fdiv_eq_ediv_of_nonneg _ (by omega)]; omega
    have hs2 : ((u : Int) * 4294967296) / 4294967296 = u := by omega
    have hw1 : IntKind.i32.wrap (u : Int) = u := by rw [IntKind.wrap_i32]; omega
    have hw3 : decide ((u : Int) < 0) = false := by simp
    have hw4 : decide ((0 : Int) < u) = true := by simp; omega
    have he1 : ((u : Int) == 1) = false := beq_eq_false_iff_ne.2 (by omega)
    have he2 : decide ((u : Int) = 1) = false := decide_eq_false (by omega)
    have he3 : decide (u = 1) = false := decide_eq_false (by omega)
    walk_nrm
    repeat first
      | with_reducible refine Back.seq hZ4 ?_
      | with_reducible refine Back.rend hZ4 ?_
      | with_reducible refine Back.skip hZ4 ?_
      | with_reducible refine Back.block hZ4 ?_
      | with_reducible refine Back.loop hZ4 ?_
      | with_reducible refine Back.inBlock hZ4 ?_
      | with_reducible refine Back.inLoop hZ4 ?_
      | with_reducible refine Back.ret hZ4 ?_
      | with_reducible refine Back.fin hZ4 ?_
      | refine Back.exit hZ4 rfl ?_
      | ((with_reducible refine Back.condT hZ4 ?_ ?_); (focus exact rfl))
      | ((with_reducible refine Back.condF hZ4 ?_ ?_); (focus exact rfl))
      | ((with_reducible refine Back.region hZ4 ?_); simp only [List.size_toArray, List.length_cons, List.length_nil, Nat.reduceAdd, Nat.zero_add, List.range, List.range.loop])
      | (refine hZ4.unwanted rfl rfl ?_; walk_nrm)
      | (refine hZ4.value rfl rfl (by k_ne) (fun w hw => by go_simp <;> rfl) (fun w hw => by simp [go_sem, *]) ?_; walk_nrm; try w_num; try simp only [he1, he2, he3])
      | (refine hZ4.defer rfl rfl (by k_ne) rfl ?_; walk_nrm)
      | (refine hZ4.call rfl rfl (by k_ne) rfl H.f_uAdd (nm_uAdd L) rfl ?_; walk_nrmf uAddFn)
      | (refine hZ4.leave1 rfl rfl H.f_uAdd rfl ?_; walk_nrm)
      | (refine hZ4.bub (.bool false) rfl rfl (by k_ne) rfl H.f_inBubble (x_inBubble_n L) (x_inBubble_b L) (x_inBubble_x L) (x_inBubble_f L) ?_; walk_nrm)
    exact hr _ _
end Go.Vk
end
section
namespace Go.Vk
open Go.Conc Go.RowKit Go.Conc.Lib Go.ConcR.Gen
open Go.ConcR (KK wgBlock WgAt stA smA rd wr mk)
open Go.ConcN (WgLive)
noncomputable def wait_head (L : WgLink) : Code := match (waitFn L).body with | some (.seq c _) => c | _ => .skip
noncomputable def wait_loop (L : WgLink) : Code := match (waitFn L).body with | some (.seq _ (.block _ (.loop b))) => b | _ => .skip
theorem wait_body (L : WgLink) : (waitFn L).body = some (.seq (wait_head L) (.block 0 (.loop (wait_loop L)))) := rfl
set_option maxRecDepth 100000 in
set_option maxHeartbeats 8000000 in
theorem wait_round {P : Program} {L : WgLink} (H : WgLib P L) {main : Bool} {J : World → Prop} {Wg : Nat} (hJ : ∀ w, J w → WgLive L.tWg Wg w) {b₀ : Frame} {a₀ : Act} {ops₀ : Array Oper} {i₀ : Nat} {rest₀ : List Nat} {k₀ : List Item} {cs : List Frame} {Z2 Z2' Z4 Z5 Z6 Z7 Z9 Z10 : Goroutine → Prop} {Z3 : Int → Goroutine → Prop}
    (hZ2 : Back P main J Z2) (h2 : ∀ g, LoadAt P main J L.tWg Wg WtOk (fun x g => (x = 0 → Z7 g) ∧ (x ≠ 0 → Z3 x g)) g → Z2 g)
    (hZ3 : ∀ x, Back P main J (Z3 x)) (h3 : ∀ x g, CasAt P main J L.tWg Wg x Z4 Z2' g → Z3 x g)
    (hZ4 : Back P main J Z4) (h4 : ∀ g, MarkAt P main J (.write (smA Wg)) Z5 g → Z4 g)
    (hZ5 : Back P main J Z5) (h5 : ∀ g, SemacqAt P main J L.tWg Wg Z6 g → Z5 g)
    (hZ6 : Back P main J Z6) (h6 : ∀ g, LoadAt P main J L.tWg Wg (· = 0) (fun _ => Z7) g → Z6 g)
    (hZ7 : Back P main J Z7) (h7 : ∀ g, MarkAt P main J .enable Z9 g → Z7 g)
    (hZ9 : Back P main J Z9) (h9 : ∀ g, MarkAt P main J (.acquire (stA Wg)) Z10 g → Z9 g)
    (hZ10 : Back P main J Z10) (hn : Z10 (G (b₀.at (a₀.put ((ops₀[i₀]?).bind (·.dst)) (.tuple #[])) (.inRegion ops₀ rest₀ :: k₀)) cs))
    (hZ2' : Back P main J Z2') (hL : ∀ x1 x2 x3 x4 x5 x6 x7 x8 x9 x10 x11 x12 x13 x14 x15 x16 x17 x18 x19 x20 x21 x22 x23 x24 x25 x26 x27 x28 x29 x30 x31 x32 x33 x34 x35 x36 x37 x38 x39 x40 x41 x42 x43 x44 x45 x46 x47 x48 x49 x50 x51 x52 x53 x54 x55 x56 x57 x58 x59 x60 x61 x62 x63 x64 x65 x66 x67 x68 x69 x70 x71 x72 x73 x74 x75 x76 x77 x78 x79 x80 x81 x82 x83 : Value, Z2' (G ((base L.wait).at ⟨#[.pointer (some ⟨Wg, 0, none⟩), x1, x2, x3, x4, x5, x6, x7, x8, x9, x10, x11, x12, x13, x14, x15, x16, x17, x18, x19, x20, x21, x22, x23, x24, x25, x26, x27, x28, x29, x30, x31, x32, x33, x34, x35, x36, x37, x38, x39, x40, x41, x42, x43, x44, x45, x46, x47, x48, x49, x50, x51, x52, x53, x54, x55, x56, x57, x58, x59, x60, x61, x62, x63, x64, x65, x66, x67, x68, x69, x70, x71, x72, x73, x74, x75, x76, x77, x78, x79, x80, x81, x82, x83], []⟩ [.code (wait_loop L), .inLoop (wait_loop L), .inBlock 0]) (b₀.at a₀ (.inRegion ops₀ (i₀ :: rest₀) :: k₀) :: cs)))
    (x1 x2 x3 x4 x5 x6 x7 x8 x9 x10 x11 x12 x13 x14 x15 x16 x17 x18 x19 x20 x21 x22 x23 x24 x25 x26 x27 x28 x29 x30 x31 x32 x33 x34 x35 x36 x37 x38 x39 x40 x41 x42 x43 x44 x45 x46 x47 x48 x49 x50 x51 x52 x53 x54 x55 x56 x57 x58 x59 x60 x61 x62 x63 x64 x65 x66 x67 x68 x69 x70 x71 x72 x73 x74 x75 x76 x77 x78 x79 x80 x81 x82 x83 : Value) : Z2 (G ((base L.wait).at ⟨#[.pointer (some ⟨Wg, 0, none⟩), x1, x2, x3, x4, x5, x6, x7, x8, x9, x10, x11, x12, x13, x14, x15, x16, x17, x18, x19, x20, x21, x22, x23, x24, x25, x26, x27, x28, x29, x30, x31, x32, x33, x34, x35, x36, x37, x38, x39, x40, x41, x42, x43, x44, x45, x46, x47, x48, x49, x50, x51, x52, x53, x54, x55, x56, x57, x58, x59, x60, x61, x62, x63, x64, x65, x66, x67, x68, x69, x70, x71, x72, x73, x74, x75, x76, x77, x78, x79, x80, x81, x82, x83], []⟩ [.code (wait_loop L), .inLoop (wait_loop L), .inBlock 0]) (b₀.at a₀ (.inRegion ops₀ (i₀ :: rest₀) :: k₀) :: cs)) := by
  lib_facts
  have hloop : ∃ c, c = wait_loop L := ⟨_, rfl⟩
  obtain ⟨cl, hcl⟩ := hloop
  rw [← hcl] at hL ⊢
  rw [show (Item.code cl) = Item.code (wait_loop L) by rw [hcl]]
  simp only [wait_loop, waitFn]
  repeat first
    | with_reducible refine Back.seq hZ2 ?_
    | with_reducible refine Back.rend hZ2 ?_
    | with_reducible refine Back.skip hZ2 ?_
    | with_reducible refine Back.block hZ2 ?_
    | with_reducible refine Back.loop hZ2 ?_
    | with_reducible refine Back.inBlock hZ2 ?_
    | with_reducible refine Back.inLoop hZ2 ?_
    | with_reducible refine Back.ret hZ2 ?_
    | with_reducible refine Back.fin hZ2 ?_
    | refine Back.exit hZ2 rfl ?_
    | ((with_reducible refine Back.condT hZ2 ?_ ?_); (focus exact rfl))
    | ((with_reducible refine Back.condF hZ2 ?_ ?_); (focus exact rfl))
    | ((with_reducible refine Back.region hZ2 ?_); simp only [List.size_toArray, List.length_cons, List.length_nil, Nat.reduceAdd, Nat.zero_add, List.range, List.range.loop])
    | (refine hZ2.unwanted rfl rfl ?_; walk_nrm)
    | (refine hZ2.value rfl rfl (by k_ne) (fun w hw => by go_simp <;> rfl) (fun w hw => by simp [go_sem, *]) ?_; walk_nrm; try w_num)
    | (refine hZ2.defer rfl rfl (by k_ne) rfl ?_; walk_nrm)
    | (refine hZ2.call rfl rfl (by k_ne) rfl H.f_uAdd (nm_uAdd L) rfl ?_; walk_nrmf uAddFn)
    | (refine hZ2.leave1 rfl rfl H.f_uAdd rfl ?_; walk_nrm)
    | (refine hZ2.call rfl rfl (by k_ne) rfl H.f_uLoad (nm_uLoad L) rfl ?_; walk_nrmf uLoadFn)
    | (refine hZ2.leave1 rfl rfl H.f_uLoad rfl ?_; walk_nrm)
    | (refine hZ2.bub (.bool false) rfl rfl (by k_ne) rfl H.f_inBubble (x_inBubble_n L) (x_inBubble_b L) (x_inBubble_x L) (x_inBubble_f L) ?_; walk_nrm)
  refine h2 _ ⟨rfl, fun x hx => ?_⟩
  obtain ⟨v, hv, rfl⟩ := hx
  refine ⟨_, fun w sm hw hat => stepG_load_atomic rfl rfl (by k_ne) rfl H.f_loadU64 (x_loadU64_n L) (x_loadU64_b L) (x_loadU64_x L) .u64 (x_loadU64_f L) rfl hat.cellSt, ?_⟩
  rcases Nat.eq_zero_or_pos v with rfl | hvp
  · have z : ((0 : Nat) : Int) * KK = 0 := by simp
    rw [z]
    clear z
    refine ⟨fun hy => ?_, fun h => absurd rfl h⟩
    clear hy
    walk_nrm
    repeat first
      | with_reducible refine Back.seq hZ7 ?_
      | with_reducible refine Back.rend hZ7 ?_
      | with_reducible refine Back.skip hZ7 ?_
      | with_reducible refine Back.block hZ7 ?_
      | with_reducible refine Back.loop hZ7 ?_
      | with_reducible refine Back.inBlock hZ7 ?_
      | with_reducible refine Back.inLoop hZ7 ?_
      | with_reducible refine Back.ret hZ7 ?_
      | with_reducible refine Back.fin hZ7 ?_
      | refine Back.exit hZ7 rfl ?_
      | ((with_reducible refine Back.condT hZ7 ?_ ?_); (focus exact rfl))
      | ((with_reducible refine Back.condF hZ7 ?_ ?_); (focus exact rfl))
      | ((with_reducible refine Back.region hZ7 ?_); simp only [List.size_toArray, List.length_cons, List.length_nil, Nat.reduceAdd, Nat.zero_add, List.range, List.range.loop])
      | (refine hZ7.unwanted rfl rfl ?_; walk_nrm)
      | (refine hZ7.value rfl rfl (by k_ne) (fun w hw => by go_simp <;> rfl) (fun w hw => by simp [go_sem, *]) ?_; walk_nrm; try w_num)
      | (refine hZ7.defer rfl rfl (by k_ne) rfl ?_; walk_nrm)
      | (refine hZ7.call rfl rfl (by k_ne) rfl H.f_uAdd (nm_uAdd L) rfl ?_; walk_nrmf uAddFn)
      | (refine hZ7.leave1 rfl rfl H.f_uAdd rfl ?_; walk_nrm)
      | (refine hZ7.call rfl rfl (by k_ne) rfl H.f_uLoad (nm_uLoad L) rfl ?_; walk_nrmf uLoadFn)
      | (refine hZ7.leave1 rfl rfl H.f_uLoad rfl ?_; walk_nrm)
      | (refine hZ7.bub (.bool false) rfl rfl (by k_ne) rfl H.f_inBubble (x_inBubble_n L) (x_inBubble_b L) (x_inBubble_x L) (x_inBubble_f L) ?_; walk_nrm)
    refine h7 _ ⟨rfl, _, fun w hw => stepG_mark0 .enable (by simp) rfl rfl (by k_ne) rfl H.f_enable (x_enable_n L) (x_enable_b L) (x_enable_x L) (x_enable_f L), ?_⟩
    walk_nrm
    repeat first
      | with_reducible refine Back.seq hZ9 ?_
      | with_reducible refine Back.rend hZ9 ?_
      | with_reducible refine Back.skip hZ9 ?_
      | with_reducible refine Back.block hZ9 ?_
      | with_reducible refine Back.loop hZ9 ?_
      | with_reducible refine Back.inBlock hZ9 ?_
      | with_reducible refine Back.inLoop hZ9 ?_
      | with_reducible refine Back.ret hZ9 ?_
      | with_reducible refine Back.fin hZ9 ?_
      | refine Back.exit hZ9 rfl ?_
      | ((with_reducible refine Back.condT hZ9 ?_ ?_); (focus exact rfl))
      | ((with_reducible refine Back.condF hZ9 ?_ ?_); (focus exact rfl))
      | ((with_reducible refine Back.region hZ9 ?_); simp only [List.size_toArray, List.length_cons, List.length_nil, Nat.reduceAdd, Nat.zero_add, List.range, List.range.loop])
      | (refine hZ9.unwanted rfl rfl ?_; walk_nrm)
      | (refine hZ9.value rfl rfl (by k_ne) (fun w hw => by go_simp <;> rfl) (fun w hw => by simp [go_sem, *]) ?_; walk_nrm; try w_num)
      | (refine hZ9.defer rfl rfl (by k_ne) rfl ?_; walk_nrm)
      | (refine hZ9.call rfl rfl (by k_ne) rfl H.f_uAdd (nm_uAdd L) rfl ?_; walk_nrmf uAddFn)
      | (refine hZ9.leave1 rfl rfl H.f_uAdd rfl ?_; walk_nrm)
      | (refine hZ9.bub (.bool false) rfl rfl (by k_ne) rfl H.f_inBubble (x_inBubble_n L) (x_inBubble_b L) (x_inBubble_x L) (x_inBubble_f L) ?_; walk_nrm)
    refine hZ9.value rfl rfl (by k_ne) (fun w hw => by
      have hcv := run_convert_to_unsafe (P := P) H.underlying_tWgP H.underlying_tUP H.room_tWg (Go.ConcN.Gen.WgLive.cell0 (hJ w hw)).choose_spec
      go_simp <;> rfl) (fun w hw => by
      have hce := fun es => events_convert_to_unsafe (P := P) H.underlying_tWgP H.underlying_tUP H.room_tWg (Go.ConcN.Gen.WgLive.cell0 (hJ w hw)).choose_spec es
      simp [go_sem, hce]) ?_
    walk_nrm
    refine h9 _ ⟨rfl, _, fun w hw => stepG_markAt .acquire (by simp) rfl rfl (by k_ne) rfl H.f_acquire (x_acquire_n L) (x_acquire_b L) (x_acquire_x L) (x_acquire_f L) (by simp [Act.eval, stA]), ?_⟩
    walk_nrm
    repeat first
      | with_reducible refine Back.seq hZ10 ?_
      | with_reducible refine Back.rend hZ10 ?_
      | with_reducible refine Back.skip hZ10 ?_
      | with_reducible refine Back.block hZ10 ?_
      | with_reducible refine Back.loop hZ10 ?_
      | with_reducible refine Back.inBlock hZ10 ?_
      | with_reducible refine Back.inLoop hZ10 ?_
      | with_reducible refine Back.ret hZ10 ?_
      | with_reducible refine Back.fin hZ10 ?_
      | refine Back.exit hZ10 rfl ?_
      | ((with_reducible refine Back.condT hZ10 ?_ ?_); (focus exact rfl))
      | ((with_reducible refine Back.condF hZ10 ?_ ?_); (focus exact rfl))
      | ((with_reducible refine Back.region hZ10 ?_); simp only [List.size_toArray, List.length_cons, List.length_nil, Nat.reduceAdd, Nat.zero_add, List.range, List.range.loop])
      | (refine hZ10.unwanted rfl rfl ?_; walk_nrm)
      | (refine hZ10.value rfl rfl (by k_ne) (fun w hw => by go_simp <;> rfl) (fun w hw => by simp [go_sem, *]) ?_; walk_nrm; try w_num)
      | (refine hZ10.defer rfl rfl (by k_ne) rfl ?_; walk_nrm)
      | (refine hZ10.call rfl rfl (by k_ne) rfl H.f_uAdd (nm_uAdd L) rfl ?_; walk_nrmf uAddFn)
      | (refine hZ10.leave1 rfl rfl H.f_uAdd rfl ?_; walk_nrm)
      | (refine hZ10.bub (.bool false) rfl rfl (by k_ne) rfl H.f_inBubble (x_inBubble_n L) (x_inBubble_b L) (x_inBubble_x L) (x_inBubble_f L) ?_; walk_nrm)
    refine hZ10.leave0 rfl rfl H.f_wait rfl ?_
    exact hn
  · have hx0 : (v : Int) * KK = (v : Int) * 4294967296 := by simp only [KK]
    have hne : (v : Int) * 4294967296 ≠ 0 := by omega
    rw [hx0]
    refine ⟨fun h => absurd h hne, fun _ => ?_⟩
    clear hne
    have hb1 : bits .and .u64 ((v : Int) * 4294967296) 2147483648 = 0 := by have := Go.ConcN.st_flag v 0 (by omega) (by omega); simpa using this
    have hb2 : bits .and .u64 ((v : Int) * 4294967296) 2147483647 = 0 := by have := Go.ConcN.st_waiters v 0 (by omega) (by omega); simpa using this
    have hs : ((v : Int) * 4294967296).fdiv 4294967296 = v := by rw [Int.fdiv_eq_ediv_of_nonneg _ (by omega)]; omega
    have hs2 : ((v : Int) * 4294967296) / 4294967296 = v := by omega
    have hw1 : IntKind.i32.wrap (v : Int) = v := by rw [IntKind.wrap_i32]; omega
    have hw2 : IntKind.u64.wrap ((v : Int) * 4294967296 + 1) = (v : Int) * 4294967296 + 1 := by rw [IntKind.wrap_u64]; omega
    have he1 : ((v : Int) == 0) = false := beq_eq_false_iff_ne.2 (by omega)
    have he2 : decide ((v : Int) = 0) = false := decide_eq_false (by omega)
    have he3 : decide (v = 0) = false := decide_eq_false (by omega)
    walk_nrm
    repeat first
      | with_reducible refine Back.seq (hZ3 _) ?_
      | with_reducible refine Back.rend (hZ3 _) ?_
      | with_reducible refine Back.skip (hZ3 _) ?_
      | with_reducible refine Back.block (hZ3 _) ?_
      | with_reducible refine Back.loop (hZ3 _) ?_
      | with_reducible refine Back.inBlock (hZ3 _) ?_
      | with_reducible refine Back.inLoop (hZ3 _) ?_
      | with_reducible refine Back.ret (hZ3 _) ?_
      | with_reducible refine Back.fin (hZ3 _) ?_
      | refine Back.exit (hZ3 _) rfl ?_
      | ((with_reducible refine Back.condT (hZ3 _) ?_ ?_); (focus exact rfl))
      | ((with_reducible refine Back.condF (hZ3 _) ?_ ?_); (focus exact rfl))
      | ((with_reducible refine Back.region (hZ3 _) ?_); simp only [List.size_toArray, List.length_cons, List.length_nil, Nat.reduceAdd, Nat.zero_add, List.range, List.range.loop])
      | (refine (hZ3 _).unwanted rfl rfl ?_; walk_nrm)
      | (refine (hZ3 _).value rfl rfl (by k_ne) (fun w hw => by go_simp <;> rfl) (fun w hw => by simp [go_sem, *]) ?_; walk_nrm; try w_num; try simp only [he1, he2, he3])
      | (refine (hZ3 _).defer rfl rfl (by k_ne) rfl ?_; walk_nrm)
      | (refine (hZ3 _).call rfl rfl (by k_ne) rfl H.f_uAdd (nm_uAdd L) rfl ?_; walk_nrmf uAddFn)
      | (refine (hZ3 _).leave1 rfl rfl H.f_uAdd rfl ?_; walk_nrm)
      | (refine (hZ3 _).call rfl rfl (by k_ne) rfl H.f_uLoad (nm_uLoad L) rfl ?_; walk_nrmf uLoadFn)
      | (refine (hZ3 _).leave1 rfl rfl H.f_uLoad rfl ?_; walk_nrm)
      | (refine (hZ3 _).call rfl rfl (by k_ne) rfl H.f_uCas (nm_uCas L) rfl ?_; walk_nrmf uCasFn)
      | (refine (hZ3 _).leave1 rfl rfl H.f_uCas rfl ?_; walk_nrm)
      | (refine (hZ3 _).bub (.bool false) rfl rfl (by k_ne) rfl H.f_inBubble (x_inBubble_n L) (x_inBubble_b L) (x_inBubble_x L) (x_inBubble_f L) ?_; walk_nrm)
    refine h3 _ _ ⟨rfl, ⟨_, fun w sm hw hat => stepG_cas_hit rfl rfl (by k_ne) rfl H.f_casU64 (x_casU64_n L) (x_casU64_b L) (x_casU64_x L) .u64 (x_casU64_f L) rfl rfl rfl (hx0 ▸ hat).cellSt (hat.thaw 0), ?_⟩,
      ⟨_, fun w x sm hw hne hat => stepG_cas_miss rfl rfl (by k_ne) rfl H.f_casU64 (x_casU64_n L) (x_casU64_b L) (x_casU64_x L) .u64 (x_casU64_f L) rfl rfl rfl hat.cellSt (hat.thaw 0) hne, ?_⟩⟩
    · walk_nrm
      repeat first
        | with_reducible refine Back.seq hZ4 ?_
        | with_reducible refine Back.rend hZ4 ?_
        | with_reducible refine Back.skip hZ4 ?_
        | with_reducible refine Back.block hZ4 ?_
        | with_reducible refine Back.loop hZ4 ?_
        | with_reducible refine Back.inBlock hZ4 ?_
        | with_reducible refine Back.inLoop hZ4 ?_
        | with_reducible refine Back.ret hZ4 ?_
        | with_reducible refine Back.fin hZ4 ?_
        | refine Back.exit hZ4 rfl ?_
        | ((with_reducible refine Back.condT hZ4 ?_ ?_); (focus exact rfl))
        | ((with_reducible refine Back.condF hZ4 ?_ ?_); (focus exact rfl))
        | ((with_reducible refine Back.region hZ4 ?_); simp only [List.size_toArray, List.length_cons, List.length_nil, Nat.reduceAdd, Nat.zero_add, List.range, List.range.loop])
        | (refine hZ4.unwanted rfl rfl ?_; walk_nrm)
        | (refine hZ4.value rfl rfl (by k_ne) (fun w hw => by go_simp <;> rfl) (fun w hw => by simp [go_sem, *]) ?_; walk_nrm; try w_num)
        | (refine hZ4.defer rfl rfl (by k_ne) rfl ?_; walk_nrm)
        | (refine hZ4.call rfl rfl (by k_ne) rfl H.f_uAdd (nm_uAdd L) rfl ?_; walk_nrmf uAddFn)
        | (refine hZ4.leave1 rfl rfl H.f_uAdd rfl ?_; walk_nrm)
        | (refine hZ4.call rfl rfl (by k_ne) rfl H.f_uCas (nm_uCas L) rfl ?_; walk_nrmf uCasFn)
        | (refine hZ4.leave1 rfl rfl H.f_uCas rfl ?_; walk_nrm)
        | (refine hZ4.bub (.bool false) rfl rfl (by k_ne) rfl H.f_inBubble (x_inBubble_n L) (x_inBubble_b L) (x_inBubble_x L) (x_inBubble_f L) ?_; walk_nrm)
      refine hZ4.value rfl rfl (by k_ne) (fun w hw => by
        have hcv := run_convert_to_unsafe (P := P) H.underlying_tPU32 H.underlying_tUP H.room_tU32 (Go.ConcN.Gen.WgLive.cell1 (hJ w hw)).choose_spec
        go_simp <;> rfl) (fun w hw => by
        have hce := fun es => events_convert_to_unsafe (P := P) H.underlying_tPU32 H.underlying_tUP H.room_tU32 (Go.ConcN.Gen.WgLive.cell1 (hJ w hw)).choose_spec es
        simp [go_sem, hce]) ?_
      walk_nrm
      refine h4 _ ⟨rfl, _, fun w hw => stepG_markAt .write (by simp) rfl rfl (by k_ne) rfl H.f_raceWrite (x_raceWrite_n L) (x_raceWrite_b L) (x_raceWrite_x L) (x_raceWrite_f L) (by simp [Act.eval, smA]), ?_⟩
      walk_nrm
      repeat first
        | with_reducible refine Back.seq hZ5 ?_
        | with_reducible refine Back.rend hZ5 ?_
        | with_reducible refine Back.skip hZ5 ?_
        | with_reducible refine Back.block hZ5 ?_
        | with_reducible refine Back.loop hZ5 ?_
        | with_reducible refine Back.inBlock hZ5 ?_
        | with_reducible refine Back.inLoop hZ5 ?_
        | with_reducible refine Back.ret hZ5 ?_
        | with_reducible refine Back.fin hZ5 ?_
        | refine Back.exit hZ5 rfl ?_
        | ((with_reducible refine Back.condT hZ5 ?_ ?_); (focus exact rfl))
        | ((with_reducible refine Back.condF hZ5 ?_ ?_); (focus exact rfl))
        | ((with_reducible refine Back.region hZ5 ?_); simp only [List.size_toArray, List.length_cons, List.length_nil, Nat.reduceAdd, Nat.zero_add, List.range, List.range.loop])
        | (refine hZ5.unwanted rfl rfl ?_; walk_nrm)
        | (refine hZ5.value rfl rfl (by k_ne) (fun w hw => by go_simp <;> rfl) (fun w hw => by simp [go_sem, *]) ?_; walk_nrm; try w_num)
        | (refine hZ5.defer rfl rfl (by k_ne) rfl ?_; walk_nrm)
        | (refine hZ5.call rfl rfl (by k_ne) rfl H.f_uAdd (nm_uAdd L) rfl ?_; walk_nrmf uAddFn)
        | (refine hZ5.leave1 rfl rfl H.f_uAdd rfl ?_; walk_nrm)
        | (refine hZ5.bub (.bool false) rfl rfl (by k_ne) rfl H.f_inBubble (x_inBubble_n L) (x_inBubble_b L) (x_inBubble_x L) (x_inBubble_f L) ?_; walk_nrm)
      refine h5 _ ⟨rfl, rfl, fun w x hw hat => stepG_semacquire_wait rfl rfl rfl H.f_semacquire (x_semacquire_n L) (x_semacquire_b L) (x_semacquire_x L) (x_semacquire_f L) (by simp [Act.eval, smA]) hat.cellSm, _, fun w x hw hat => (stepG_semacquire (n := 1) rfl rfl (by k_ne) rfl H.f_semacquire (x_semacquire_n L) (x_semacquire_b L) (x_semacquire_x L) (x_semacquire_f L) (by simp [Act.eval, smA]) hat.cellSm (by decide) (hat.thaw 1)).trans (by rfl), ?_⟩
      walk_nrm
      repeat first
        | with_reducible refine Back.seq hZ6 ?_
        | with_reducible refine Back.rend hZ6 ?_
        | with_reducible refine Back.skip hZ6 ?_
        | with_reducible refine Back.block hZ6 ?_
        | with_reducible refine Back.loop hZ6 ?_
        | with_reducible refine Back.inBlock hZ6 ?_
        | with_reducible refine Back.inLoop hZ6 ?_
        | with_reducible refine Back.ret hZ6 ?_
        | with_reducible refine Back.fin hZ6 ?_
        | refine Back.exit hZ6 rfl ?_
        | ((with_reducible refine Back.condT hZ6 ?_ ?_); (focus exact rfl))
        | ((with_reducible refine Back.condF hZ6 ?_ ?_); (focus exact rfl))
        | ((with_reducible refine Back.region hZ6 ?_); simp only [List.size_toArray, List.length_cons, List.length_nil, Nat.reduceAdd, Nat.zero_add, List.range, List.range.loop])
        | (refine hZ6.unwanted rfl rfl ?_; walk_nrm)
        | (refine hZ6.value rfl rfl (by k_ne) (fun w hw => by go_simp <;> rfl) (fun w hw => by simp [go_sem, *]) ?_; walk_nrm; try w_num)
        | (refine hZ6.defer rfl rfl (by k_ne) rfl ?_; walk_nrm)
        | (refine hZ6.call rfl rfl (by k_ne) rfl H.f_uAdd (nm_uAdd L) rfl ?_; walk_nrmf uAddFn)
        | (refine hZ6.leave1 rfl rfl H.f_uAdd rfl ?_; walk_nrm)
        | (refine hZ6.call rfl rfl (by k_ne) rfl H.f_uLoad (nm_uLoad L) rfl ?_; walk_nrmf uLoadFn)
        | (refine hZ6.leave1 rfl rfl H.f_uLoad rfl ?_; walk_nrm)
        | (refine hZ6.bub (.bool false) rfl rfl (by k_ne) rfl H.f_inBubble (x_inBubble_n L) (x_inBubble_b L) (x_inBubble_x L) (x_inBubble_f L) ?_; walk_nrm)
      refine h6 _ ⟨rfl, fun x hx => ?_⟩
      subst hx
      refine ⟨_, fun w sm hw hat => stepG_load_atomic rfl rfl (by k_ne) rfl H.f_loadU64 (x_loadU64_n L) (x_loadU64_b L) (x_loadU64_x L) .u64 (x_loadU64_f L) rfl hat.cellSt, ?_⟩
      walk_nrm
      repeat first
        | with_reducible refine Back.seq hZ7 ?_
        | with_reducible refine Back.rend hZ7 ?_
        | with_reducible refine Back.skip hZ7 ?_
        | with_reducible refine Back.block hZ7 ?_
        | with_reducible refine Back.loop hZ7 ?_
        | with_reducible refine Back.inBlock hZ7 ?_
        | with_reducible refine Back.inLoop hZ7 ?_
        | with_reducible refine Back.ret hZ7 ?_
        | with_reducible refine Back.fin hZ7 ?_
        | refine Back.exit hZ7 rfl ?_
        | ((with_reducible refine Back.condT hZ7 ?_ ?_); (focus exact rfl))
        | ((with_reducible refine Back.condF hZ7 ?_ ?_); (focus exact rfl))
        | ((with_reducible refine Back.region hZ7 ?_); simp only [List.size_toArray, List.length_cons, List.length_nil, Nat.reduceAdd, Nat.zero_add, List.range, List.range.loop])
        | (refine hZ7.unwanted rfl rfl ?_; walk_nrm)
        | (refine hZ7.value rfl rfl (by k_ne) (fun w hw => by go_simp <;> rfl) (fun w hw => by simp [go_sem, *]) ?_; walk_nrm; try w_num)
        | (refine hZ7.defer rfl rfl (by k_ne) rfl ?_; walk_nrm)
        | (refine hZ7.call rfl rfl (by k_ne) rfl H.f_uAdd (nm_uAdd L) rfl ?_; walk_nrmf uAddFn)
        | (refine hZ7.leave1 rfl rfl H.f_uAdd rfl ?_; walk_nrm)
        | (refine hZ7.call rfl rfl (by k_ne) rfl H.f_uLoad (nm_uLoad L) rfl ?_; walk_nrmf uLoadFn)
        | (refine hZ7.leave1 rfl rfl H.f_uLoad rfl ?_; walk_nrm)
        | (refine hZ7.bub (.bool false) rfl rfl (by k_ne) rfl H.f_inBubble (x_inBubble_n L) (x_inBubble_b L) (x_inBubble_x L) (x_inBubble_f L) ?_; walk_nrm)
      refine h7 _ ⟨rfl, _, fun w hw => stepG_mark0 .enable (by simp) rfl rfl (by k_ne) rfl H.f_enable (x_enable_n L) (x_enable_b L) (x_enable_x L) (x_enable_f L), ?_⟩
      walk_nrm
      repeat first
        | with_reducible refine Back.seq hZ9 ?_
        | with_reducible refine Back.rend hZ9 ?_
        | with_reducible refine Back.skip hZ9 ?_
        | with_reducible refine Back.block hZ9 ?_
        | with_reducible refine Back.loop hZ9 ?_
        | with_reducible refine Back.inBlock hZ9 ?_
        | with_reducible refine Back.inLoop hZ9 ?_
        | with_reducible refine Back.ret hZ9 ?_
        | with_reducible refine Back.fin hZ9 ?_
        | refine Back.exit hZ9 rfl ?_
        | ((with_reducible refine Back.condT hZ9 ?_ ?_); (focus exact rfl))
        | ((with_reducible refine Back.condF hZ9 ?_ ?_); (focus exact rfl))
        | ((with_reducible refine Back.region hZ9 ?_); simp only [List.size_toArray, List.length_cons, List.length_nil, Nat.reduceAdd, Nat.zero_add, List.range, List.range.loop])
        | (refine hZ9.unwanted rfl rfl ?_; walk_nrm)
        | (refine hZ9.value rfl rfl (by k_ne) (fun w hw => by go_simp <;> rfl) (fun w hw => by simp [go_sem, *]) ?_; walk_nrm; try w_num)
        | (refine hZ9.defer rfl rfl (by k_ne) rfl ?_; walk_nrm)
        | (refine hZ9.call rfl rfl (by k_ne) rfl H.f_uAdd (nm_uAdd L) rfl ?_; walk_nrmf uAddFn)
        | (refine hZ9.leave1 rfl rfl H.f_uAdd rfl ?_; walk_nrm)
        | (refine hZ9.bub (.bool false) rfl rfl (by k_ne) rfl H.f_inBubble (x_inBubble_n L) (x_inBubble_b L) (x_inBubble_x L) (x_inBubble_f L) ?_; walk_nrm)
      refine hZ9.value rfl rfl (by k_ne) (fun w hw => by
        have hcv := run_convert_to_unsafe (P := P) H.underlying_tWgP H.underlying_tUP H.room_tWg (Go.ConcN.Gen.WgLive.cell0 (hJ w hw)).choose_spec
        go_simp <;> rfl) (fun w hw => by
        have hce := fun es => events_convert_to_unsafe (P := P) H.underlying_tWgP H.underlying_tUP H.room_tWg (Go.ConcN.Gen.WgLive.cell0 (hJ w hw)).choose_spec es
        simp [go_sem, hce]) ?_
      walk_nrm
      refine h9 _ ⟨rfl, _, fun w hw => stepG_markAt .acquire (by simp) rfl rfl (by k_ne) rfl H.f_acquire (x_acquire_n L) (x_acquire_b L) (x_acquire_x L) (x_acquire_f L) (by simp [Act.eval, stA]), ?_⟩
      walk_nrm
      repeat first
        | with_reducible refine Back.seq hZ10 ?_
        | with_reducible refine Back.rend hZ10 ?_
        | with_reducible refine Back.skip hZ10 ?_
        | with_reducible refine Back.block hZ10 ?_
        | with_reducible refine Back.loop hZ10 ?_
        | with_reducible refine Back.inBlock hZ10 ?_
        | with_reducible refine Back.inLoop hZ10 ?_
        | with_reducible refine Back.ret hZ10 ?_
        | with_reducible refine Back.fin hZ10 ?_
        | refine Back.exit hZ10 rfl ?_
        | ((with_reducible refine Back.condT hZ10 ?_ ?_); (focus exact rfl))
        | ((with_reducible refine Back.condF hZ10 ?_ ?_); (focus exact rfl))
        | ((with_reducible refine Back.region hZ10 ?_); simp only [List.size_toArray, List.length_cons, List.length_nil, Nat.reduceAdd, Nat.zero_add, List.range, List.range.loop])
        | (refine hZ10.unwanted rfl rfl ?_; walk_nrm)
        | (refine hZ10.value rfl rfl (by k_ne) (fun w hw => by go_simp <;> rfl) (fun w hw => by simp [go_sem, *]) ?_; walk_nrm; try w_num)
        | (refine hZ10.defer rfl rfl (by k_ne) rfl ?_; walk_nrm)
        | (refine hZ10.call rfl rfl (by k_ne) rfl H.f_uAdd (nm_uAdd L) rfl ?_; walk_nrmf uAddFn)
        | (refine hZ10.leave1 rfl rfl H.f_uAdd rfl ?_; walk_nrm)
        | (refine hZ10.bub (.bool false) rfl rfl (by k_ne) rfl H.f_inBubble (x_inBubble_n L) (x_inBubble_b L) (x_inBubble_x L) (x_inBubble_f L) ?_; walk_nrm)
      refine hZ10.leave0 rfl rfl H.f_wait rfl ?_
      exact hn
    · walk_nrm
      repeat first
        | with_reducible refine Back.seq hZ2' ?_
        | with_reducible refine Back.rend hZ2' ?_
        | with_reducible refine Back.skip hZ2' ?_
        | with_reducible refine Back.block hZ2' ?_
        | with_reducible refine Back.loop hZ2' ?_
        | with_reducible refine Back.inBlock hZ2' ?_
        | with_reducible refine Back.inLoop hZ2' ?_
        | with_reducible refine Back.ret hZ2' ?_
        | with_reducible refine Back.fin hZ2' ?_
        | refine Back.exit hZ2' rfl ?_
        | ((with_reducible refine Back.condT hZ2' ?_ ?_); (focus exact rfl))
        | ((with_reducible refine Back.condF hZ2' ?_ ?_); (focus exact rfl))
        | ((with_reducible refine Back.region hZ2' ?_); simp only [List.size_toArray, List.length_cons, List.length_nil, Nat.reduceAdd, Nat.zero_add, List.range, List.range.loop])
        | (refine hZ2'.unwanted rfl rfl ?_; walk_nrm)
        | (refine hZ2'.value rfl rfl (by k_ne) (fun w hw => by go_simp <;> rfl) (fun w hw => by simp [go_sem, *]) ?_; walk_nrm; try w_num)
        | (refine hZ2'.defer rfl rfl (by k_ne) rfl ?_; walk_nrm)
        | (refine hZ2'.call rfl rfl (by k_ne) rfl H.f_uAdd (nm_uAdd L) rfl ?_; walk_nrmf uAddFn)
        | (refine hZ2'.leave1 rfl rfl H.f_uAdd rfl ?_; walk_nrm)
        | (refine hZ2'.call rfl rfl (by k_ne) rfl H.f_uCas (nm_uCas L) rfl ?_; walk_nrmf uCasFn)
        | (refine hZ2'.leave1 rfl rfl H.f_uCas rfl ?_; walk_nrm)
        | (refine hZ2'.bub (.bool false) rfl rfl (by k_ne) rfl H.f_inBubble (x_inBubble_n L) (x_inBubble_b L) (x_inBubble_x L) (x_inBubble_f L) ?_; walk_nrm)
      apply hL

set_option maxRecDepth 100000 in
set_option maxHeartbeats 8000000 in
theorem wait_enter {P : Program} {L : WgLink} (H : WgLib P L) {main : Bool} {J : World → Prop} {Wg : Nat} {c : Frame} {cs : List Frame} {Z1 Z2 : Goroutine → Prop}
    (hZ1 : Back P main J Z1) (h1 : ∀ g, MarkAt P main J .disable Z2 g → Z1 g) (hZ2 : Back P main J Z2)
    (hL : ∀ x1 x2 x3 x4 x5 x6 x7 x8 x9 x10 x11 x12 x13 x14 x15 x16 x17 x18 x19 x20 x21 x22 x23 x24 x25 x26 x27 x28 x29 x30 x31 x32 x33 x34 x35 x36 x37 x38 x39 x40 x41 x42 x43 x44 x45 x46 x47 x48 x49 x50 x51 x52 x53 x54 x55 x56 x57 x58 x59 x60 x61 x62 x63 x64 x65 x66 x67 x68 x69 x70 x71 x72 x73 x74 x75 x76 x77 x78 x79 x80 x81 x82 x83 : Value, Z2 (G ((base L.wait).at ⟨#[.pointer (some ⟨Wg, 0, none⟩), x1, x2, x3, x4, x5, x6, x7, x8, x9, x10, x11, x12, x13, x14, x15, x16, x17, x18, x19, x20, x21, x22, x23, x24, x25, x26, x27, x28, x29, x30, x31, x32, x33, x34, x35, x36, x37, x38, x39, x40, x41, x42, x43, x44, x45, x46, x47, x48, x49, x50, x51, x52, x53, x54, x55, x56, x57, x58, x59, x60, x61, x62, x63, x64, x65, x66, x67, x68, x69, x70, x71, x72, x73, x74, x75, x76, x77, x78, x79, x80, x81, x82, x83], []⟩ [.code (wait_loop L), .inLoop (wait_loop L), .inBlock 0]) (c :: cs))) :
    Z1 (G (Frame.enter P L.wait #[.pointer (some ⟨Wg, 0, none⟩)] .normal) (c :: cs)) := by
  lib_facts
  have hb : (waitFn L).body = some (.seq (wait_head L) (.block 0 (.loop (wait_loop L)))) := wait_body L
  rw [enter_at _ H.f_wait hb]
  refine hZ1.seq ?_
  simp only [wait_head, waitFn]
  walk_nrm
  repeat first
    | with_reducible refine Back.seq hZ1 ?_
    | with_reducible refine Back.rend hZ1 ?_
    | with_reducible refine Back.skip hZ1 ?_
    | with_reducible refine Back.block hZ1 ?_
    | with_reducible refine Back.loop hZ1 ?_
    | with_reducible refine Back.inBlock hZ1 ?_
    | with_reducible refine Back.inLoop hZ1 ?_
    | with_reducible refine Back.ret hZ1 ?_
    | with_reducible refine Back.fin hZ1 ?_
    | refine Back.exit hZ1 rfl ?_
    | ((with_reducible refine Back.condT hZ1 ?_ ?_); (focus exact rfl))
    | ((with_reducible refine Back.condF hZ1 ?_ ?_); (focus exact rfl))
    | ((with_reducible refine Back.region hZ1 ?_); simp only [List.size_toArray, List.length_cons, List.length_nil, Nat.reduceAdd, Nat.zero_add, List.range, List.range.loop])
    | (refine hZ1.unwanted rfl rfl ?_; walk_nrm)
    | (refine hZ1.value rfl rfl (by k_ne) (fun w hw => by go_simp <;> rfl) (fun w hw => by simp [go_sem, *]) ?_; walk_nrm; try w_num)
    | (refine hZ1.defer rfl rfl (by k_ne) rfl ?_; walk_nrm)
    | (refine hZ1.call rfl rfl (by k_ne) rfl H.f_uAdd (nm_uAdd L) rfl ?_; walk_nrmf uAddFn)
    | (refine hZ1.leave1 rfl rfl H.f_uAdd rfl ?_; walk_nrm)
    | (refine hZ1.bub (.bool false) rfl rfl (by k_ne) rfl H.f_inBubble (x_inBubble_n L) (x_inBubble_b L) (x_inBubble_x L) (x_inBubble_f L) ?_; walk_nrm)
  refine h1 _ ⟨rfl, _, fun w hw => stepG_mark0 .disable (by simp) rfl rfl (by k_ne) rfl H.f_disable (x_disable_n L) (x_disable_b L) (x_disable_x L) (x_disable_f L), ?_⟩
  walk_nrm
  refine hZ2.rend ?_
  refine hZ2.block ?_
  refine hZ2.loop ?_
  apply hL
end Go.Vk
end
