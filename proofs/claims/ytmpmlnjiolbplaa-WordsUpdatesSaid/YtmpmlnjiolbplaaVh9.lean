/-
  A part of memory that no one writes from here on, read as plain cells, while the rest stays one's own.
-/
import Derived.Test.YtmpmlnjiolbplaaVh8
set_option linter.unusedVariables false
set_option linter.unusedSimpArgs false
namespace Go.Vc
open HM
def killZ (Z : List Nat) (S : Store) : Store := S.mapIdx fun l o => if l ∈ Z then .dead else o
def keepZ (Z : List Nat) (S : Store) : Store := S.mapIdx fun l o => if l ∈ Z then o else .dead
theorem killZ_at {Z : List Nat} {S : Store} {l : Nat} {o : Ob} (h : (killZ Z S)[l]? = some o) : (l ∈ Z ∧ o = .dead) ∨ (l ∉ Z ∧ S[l]? = some o) := by
  unfold killZ at h
  rw [List.getElem?_mapIdx] at h
  obtain ⟨o', h1, h2⟩ := Option.map_eq_some_iff.1 h
  by_cases c : l ∈ Z
  · rw [if_pos c] at h2; exact .inl ⟨c, h2.symm⟩
  · rw [if_neg c] at h2; exact .inr ⟨c, by rw [← h2]; exact h1⟩
theorem keepZ_at {Z : List Nat} {S : Store} {l : Nat} {o : Ob} (h : (keepZ Z S)[l]? = some o) : (l ∉ Z ∧ o = .dead) ∨ (l ∈ Z ∧ S[l]? = some o) := by
  unfold keepZ at h
  rw [List.getElem?_mapIdx] at h
  obtain ⟨o', h1, h2⟩ := Option.map_eq_some_iff.1 h
  by_cases c : l ∈ Z
  · rw [if_pos c] at h2; exact .inr ⟨c, by rw [← h2]; exact h1⟩
  · rw [if_neg c] at h2; exact .inl ⟨c, h2.symm⟩
theorem killZ_own {Z : List Nat} {S : Store} {E : Env} {l b : Nat} (h : OwnAt E (killZ Z S) l b) : l ∉ Z ∧ OwnAt E S l b := by
  obtain ⟨o, h1, h2⟩ := h
  rcases killZ_at h1 with ⟨_, rfl⟩ | ⟨c, h3⟩
  · cases h2
  · exact ⟨c, o, h3, h2⟩
theorem keepZ_own {Z : List Nat} {S : Store} {E : Env} {l b : Nat} (h : OwnAt E (keepZ Z S) l b) : l ∈ Z ∧ OwnAt E S l b := by
  obtain ⟨o, h1, h2⟩ := h
  rcases keepZ_at h1 with ⟨_, rfl⟩ | ⟨c, h3⟩
  · cases h2
  · exact ⟨c, o, h3, h2⟩
section
variable {E : Env} {fz : Nat → Prop} {S : Store} {w : World} {P : Program} {f : FuncId} {args : List AVal}
theorem St.keepZ (Z : List Nat) (st : St E fz S w) : St E fz (Go.Vc.keepZ Z S) w :=
  ⟨fun l o h => by
    rcases keepZ_at h with ⟨_, rfl⟩ | ⟨_, h⟩
    · trivial
    · exact st.ok l o h, fun l l' b h h' => st.sep l l' b (keepZ_own h).2 (keepZ_own h').2, st.fzlt, st.fresh⟩
theorem St.killZ (Z : List Nat) (st : St E fz S w) : St E (frozen E fz (Go.Vc.keepZ Z S)) (Go.Vc.killZ Z S) w :=
  ⟨fun l o h => by
    rcases killZ_at h with ⟨_, rfl⟩ | ⟨c, h⟩
    · trivial
    · refine (st.ok l o h).mono (fun _ _ h => h) (fun _ h => .inl h) (fun _ _ => rfl) fun b hb => ⟨rfl, ?_⟩
      rintro (hf | ⟨l', ho⟩)
      · exact (st.own_lt ⟨o, h, hb⟩).2 hf
      · obtain ⟨h1, h2⟩ := keepZ_own ho
        exact c (st.sep l l' b ⟨o, h, hb⟩ h2 ▸ h1),
   fun l l' b h h' => st.sep l l' b (killZ_own h).2 (killZ_own h').2, fun b hb => hb.elim (st.fzlt b) fun ⟨l, h⟩ => (st.own_lt (keepZ_own h).2).1, st.fresh⟩
theorem ACalls.freezeZ {R K : AVal → Store → Prop} (n : Nat) (h : ACalls P f args S R) (hK : ∀ r S', R r S' → ∃ Z, K (derefT (keepZ Z S') n r) (killZ Z S')) : ACalls P f args S K :=
  ⟨fun E fz w vals st hrel => (h.out E fz w vals st hrel).mono fun e w' ⟨r, S', v, E', fz', h1, h2, h3, h4, h5⟩ => by
    obtain ⟨Z, hZ⟩ := hK r S' h5
    exact ⟨_, _, v, E', frozen E' fz' (keepZ Z S'), h1, ⟨h2.env, fun b hb => .inl (h2.frz b hb), fun b hb => hb.elim (h2.fznew b) fun ⟨l, ho⟩ => .inr (h2.own b ⟨l, (keepZ_own ho).2⟩), h2.keep, fun b ⟨l, ho⟩ => h2.own b ⟨l, (killZ_own ho).2⟩, h2.size, h2.os, h2.output, h2.tape⟩,
      h3.killZ Z, derefT_rel (h3.keepZ Z) n r v h4, hZ⟩⟩
end
/-- **What a function makes is frozen: its result reads as plain cells.** -/
theorem HC.freeze {P : Program} {f : FuncId} {args : List AVal} {a : HM} {R R2 : AVal → HM → Prop} (n : Nat) (h : HC P f args a R)
    (hR : ∀ r m', R r m' → ∃ mk mz r0, m' = mk + mz ∧ (∀ Sz, Has Sz mz → derefT Sz n r = r0) ∧ R2 r0 mk) : HC P f args a R2 := fun S mf hS => by
  refine ACalls.freezeZ n (h S mf hS) fun r S' ⟨m', h1, h2⟩ => ?_
  obtain ⟨mk, mz, r0, rfl, h3, h4⟩ := hR r m' h1
  obtain ⟨x, rfl⟩ := mk.ex
  obtain ⟨y, rfl⟩ := mz.ex
  obtain ⟨z, rfl⟩ := mf.ex
  have h2 : HasL S' ((x ++ y) ++ z) := h2
  have nd := h2.nd
  rw [List.map_append, List.map_append] at nd
  have nxy := List.nodup_append.1 (List.nodup_append.1 nd).1
  have nz := (List.nodup_append.1 nd).2.2
  refine ⟨y.map (·.1), of x, ?_, ?_⟩
  · have e : derefT (keepZ (y.map (·.1)) S') n r = r0 := h3 _ (show HasL _ y from ⟨nxy.2.1, fun p hp => by
      unfold keepZ
      rw [List.getElem?_mapIdx, h2.at_ p (by simp [hp])]
      simp only [Option.map_some]
      rw [if_pos (List.mem_map_of_mem hp)]⟩)
    rw [e]; exact h4
  · show HasL _ (x ++ z)
    refine ⟨?_, fun p hp => ?_⟩
    · rw [List.map_append]
      exact List.nodup_append.2 ⟨nxy.1, (List.nodup_append.1 nd).2.1, fun a ha b hb => nz a (List.mem_append_left _ ha) b hb⟩
    · have hne : p.1 ∉ y.map (·.1) := fun hy => by
        rcases List.mem_append.1 hp with hp | hp
        · exact nxy.2.2 p.1 (List.mem_map_of_mem hp) p.1 hy rfl
        · exact nz p.1 (List.mem_append_right _ hy) p.1 (List.mem_map_of_mem hp) rfl
      unfold killZ
      rw [List.getElem?_mapIdx, h2.at_ p (by rcases List.mem_append.1 hp with hp | hp <;> simp [hp])]
      simp only [Option.map_some]
      rw [if_neg hne]
end Go.Vc
