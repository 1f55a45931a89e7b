/-
  Calls that answer one value and leave the store as it is; memory that no one writes any more.
-/
import Derived.Test.YtfelfimcnidplaaVh3
set_option linter.unusedVariables false
set_option linter.unusedSimpArgs false
namespace Go.Vc
open HM
/-- A call that answers this one value, made of memory that no one writes. -/
def RC (P : Program) (f : FuncId) (args : List AVal) (r0 : AVal) : Prop := ACalls P f args [] fun r _ => r = r0
section
variable {P : Program} {f : FuncId} {args : List AVal} {r0 : AVal} {S : Store} {m a : HM} {K : AVal → Store → Prop} {R : AVal → HM → Prop}
theorem RC.use (h : RC P f args r0) (hk : K r0 S) : ACalls P f args S K := ACalls.use (Q := fun r => r = r0) h fun r e => e ▸ hk
theorem RC.of (n : Nat) (h : HC P f args HM.nil R) (hR : ∀ r m' S', R r m' → Has S' m' → deref S' n r = r0) : RC P f args r0 :=
  ACalls.freeze n ((h [] HM.nil (by rw [HM.add_nil]; exact Has.nil)).mono fun r S' ⟨m', h1, h2⟩ => hR r m' S' h1 h2.left)
theorem RC.val (h : HC P f args HM.nil fun r _ => r = r0) : RC P f args r0 := RC.of 0 h fun r m' S' e _ => e
/-- All the rest of a store. -/
theorem Has.rest (h : Has S m) : ∃ mf, Has S (m + mf) ∧ ∀ S', Has S' (m + mf) → ∀ (l : Nat) o, S[l]? = some o → S'[l]? = some o := by
  obtain ⟨H, rfl⟩ := m.ex
  have h : HasL S H := h
  let G : Hp := ((List.range S.length).filter fun l => !(H.map (·.1)).contains l).map fun l => (l, S.getD l .dead)
  have gk : G.map (·.1) = (List.range S.length).filter fun l => !(H.map (·.1)).contains l := by
    simp only [G, List.map_map]
    exact List.map_id' _
  have hG : HasL S (H ++ G) := by
    refine ⟨?_, fun p hp => ?_⟩
    · rw [List.map_append, gk]
      refine List.nodup_append.2 ⟨h.nd, (List.nodup_range).sublist (List.filter_sublist), fun x hx y hy => ?_⟩
      rintro rfl
      have := (List.mem_filter.1 hy).2
      simp only [Bool.not_eq_true', List.contains_eq_mem, decide_eq_false_iff_not] at this
      exact this hx
    · rcases List.mem_append.1 hp with hp | hp
      · exact h.at_ p hp
      · obtain ⟨l, hl, rfl⟩ := List.mem_map.1 hp
        have := List.mem_range.1 (List.mem_filter.1 hl).1
        simp [List.getD, List.getElem?_eq_getElem this]
  refine ⟨of G, hG, fun S' h' l o hl => ?_⟩
  have h' : HasL S' (H ++ G) := h'
  by_cases c : l ∈ H.map (·.1)
  · obtain ⟨p, hp, e⟩ := List.mem_map.1 c
    have h1 := h.at_ p hp
    have h2 := h'.at_ p (List.mem_append_left _ hp)
    rw [e] at h1 h2
    rw [h2, ← h1, hl]
  · have hlt := (List.getElem?_eq_some_iff.1 hl).1
    have := h'.at_ (l, S.getD l .dead) (List.mem_append_right _ (List.mem_map.2 ⟨l, List.mem_filter.2 ⟨List.mem_range.2 hlt, by simpa using c⟩, rfl⟩))
    rw [show S.getD l .dead = o by simp [List.getD, hl]] at this
    exact this
/-- A call that answers this value, makes what it makes, and changes nothing that is. -/
theorem HC.quiet {g : HM → HM} [i : Part m a g] (hc : HC P f args a R) (hR : ∀ r m', R r m' → r = r0 ∧ ∃ X, m' = a + X) (h : Has S m) (hk : K r0 S) : ACalls P f args S K := by
  obtain ⟨R0, hm⟩ := i.split
  have h := i.eq ▸ h
  rw [hm] at h
  obtain ⟨mf, h1, h2⟩ := h.rest
  refine (hc S (R0 + mf) (h1.eq (by ac_rfl))).weak fun r S' ⟨m', g1, g2⟩ => ?_
  obtain ⟨rfl, X, rfl⟩ := hR r m' g1
  have g3 := (g2.eq (m' := (a + R0 + mf) + X) (by ac_rfl)).left
  exact ⟨_, id, S, LeV.refl _, ⟨fun l l' _ _ e => e, fun l o hl => ⟨o, h2 S' g3 l o hl, .refl o⟩⟩, hk⟩
theorem Has.as1 {b c : HM} (h : Has S (a + (b + c))) : Has S ((a + b) + c) := h.eq (by ac_rfl)
theorem Has.as2 {b c d : HM} (h : Has S (a + (b + (c + d)))) : Has S ((a + (b + c)) + d) := h.eq (by ac_rfl)
theorem Has.as3 {b c d e : HM} (h : Has S (a + (b + (c + (d + e))))) : Has S ((a + (b + (c + d))) + e) := h.eq (by ac_rfl)
theorem o_max {F : Frame} {x y : Rand} {ik : IntKind} {a b : Int} (hx : rd F x = .int ik a) (hy : rd F y = .int ik b) (h : K (.int ik (max a b)) S) : vcOp P F S K (.max [x, y]) := by
  refine rdsK_of ?_
  simp only [List.map_cons, List.map_nil, hx, hy]
  exact ⟨rfl, h⟩
/-- A piece of code by itself. -/
theorem c_cut {a b : SCode} {Q : SExit → Frame → Store → Prop} {F : Frame} (pre : Frame → Store → Prop) (h2 : ∀ F S, pre F S → vc P b Q F S) (h1 : ∀ N : Frame → Store → Prop, (∀ F S, pre F S → N F S) → vc P a (SExit.onNormal N Q) F S) : vc P (.seq a b) Q F S := h1 _ h2
theorem c_cutN {a : SCode} {Q : SExit → Frame → Store → Prop} {F : Frame} {N0 : Frame → Store → Prop} (pre : Frame → Store → Prop) (h2 : ∀ F S, pre F S → N0 F S) (h1 : ∀ N : Frame → Store → Prop, (∀ F S, pre F S → N F S) → vc P a (SExit.onNormal N Q) F S) : vc P a (SExit.onNormal N0 Q) F S := h1 _ h2
end
end Go.Vc
