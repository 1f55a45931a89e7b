/- A machine of many finds: its levels, its pointers back. Conditions: none. -/
import Derived.Test.YtfelfimcnidplaaF2
set_option linter.unusedVariables false
set_option linter.unusedSimpArgs false
set_option maxRecDepth 100000
namespace Go.Proofs.Ytfelfimcnidplaa.F
open Go.Vc Go.Fu
abbrev Bk := Bytes → Option (Nat × Nat)
def setB (N : List Nd) (β : Bk) : List Nd := N.map fun n => { n with bk := β n.s }
theorem setB_sk (N : List Nd) (β : Bk) : (setB N β).map sk = N.map sk := by unfold setB; rw [List.map_map]; rfl
theorem setB_same {N : List Nd} {β : Bk} (h : ∀ n ∈ N, n.bk = β n.s) : setB N β = N := by
  unfold setB
  conv => rhs; rw [← List.map_id N]
  exact List.map_congr_left fun n hn => by rw [← h n hn]; rfl
theorem setB_mem {N : List Nd} {β : Bk} {n : Nd} (h : n ∈ N) : { n with bk := β n.s } ∈ setB N β := List.mem_map.2 ⟨n, h, rfl⟩
open Classical in
noncomputable def updB (β : Bk) (u : Bytes) (x : Nat × Nat) : Bk := fun y => if y = u then some x else β y
theorem updB_self (β : Bk) (u : Bytes) (x : Nat × Nat) : updB β u x u = some x := by unfold updB; rw [if_pos rfl]
theorem updB_ne {β : Bk} {u y : Bytes} {x : Nat × Nat} (h : y ≠ u) : updB β u x y = β y := by unfold updB; rw [if_neg h]
theorem setB_mid (A B : List Nd) (c : Nd) (β : Bk) : setB (A ++ c :: B) β = setB A β ++ { c with bk := β c.s } :: setB B β := by unfold setB; simp
theorem setB_upd {A B : List Nd} {c : Nd} {β : Bk} {x : Nat × Nat} (hn : ((A ++ c :: B).map (·.s)).Nodup) : setB (A ++ c :: B) (updB β c.s x) = setB A β ++ { c with bk := some x } :: setB B β := by
  rw [setB_mid, updB_self]
  rw [List.map_append, List.map_cons] at hn
  have h1 := List.nodup_append.1 hn
  have h2 := List.nodup_cons.1 h1.2.1
  congr 1
  · unfold setB
    exact List.map_congr_left fun n hn => by rw [updB_ne (fun e => h1.2.2 n.s (List.mem_map_of_mem hn) c.s (by simp) e)]
  · congr 1
    unfold setB
    exact List.map_congr_left fun n hn => by rw [updB_ne (fun e => h2.1 (by rw [← e]; exact List.mem_map_of_mem hn))]
noncomputable section
def ndOf (N : List Nd) (u : Bytes) : Option Nd := N.find? fun n => n.s == u
def plOf (N : List Nd) (u : Bytes) : Nat × Nat := match ndOf N u with | some n => (n.p, n.v) | none => (0, 0)
def kids (N : List Nd) (u : Bytes) : List Bytes := match ndOf N u with | some n => n.es.map fun e => u ++ [e.1] | none => []
def lvC (N : List Nd) (L : List Bytes) : List AVal := L.map fun u => .ptr (plOf N u).1 (plOf N u).2 0
end
section
variable {fs : List Bytes} {N : List Nd} {Q : Bytes → Prop}
theorem ndOf_of (h : Shape N Q) {n : Nd} (hn : n ∈ N) : ndOf N n.s = some n := by
  unfold ndOf
  cases e : N.find? (fun m => m.s == n.s) with
  | none =>
    have := List.find?_eq_none.1 e n hn
    simp at this
  | some m =>
    have h1 := List.find?_some e
    have h2 := List.mem_of_find?_eq_some e
    rw [h.one h2 hn (by simpa using h1)]
theorem plOf_of (h : Shape N Q) {n : Nd} (hn : n ∈ N) : plOf N n.s = (n.p, n.v) := by unfold plOf; rw [ndOf_of h hn]
theorem kids_of (h : Shape N Q) {n : Nd} (hn : n ∈ N) : kids N n.s = n.es.map fun e => n.s ++ [e.1] := by unfold kids; rw [ndOf_of h hn]
theorem kids_mem (h : Shape N Q) {n : Nd} (hn : n ∈ N) (x : Bytes) : x ∈ kids N n.s ↔ Q x ∧ ∃ b, x = n.s ++ [b] := by
  rw [kids_of h hn, List.mem_map]
  constructor
  · rintro ⟨⟨b, p, v⟩, he, rfl⟩
    obtain ⟨c, hc, q, _⟩ := h.down n hn b p v he
    exact ⟨(h.all _).2 ⟨c, hc, q⟩, b, rfl⟩
  · rintro ⟨hq, b, rfl⟩
    obtain ⟨c, hc, q⟩ := (h.all _).1 hq
    obtain ⟨m, hm, q1, q2⟩ := h.up c hc n.s b q
    have := h.one hm hn q1
    subst this
    exact ⟨_, q2, rfl⟩
theorem kids_nodup (h : Shape N Q) {n : Nd} (hn : n ∈ N) : (kids N n.s).Nodup := by
  rw [kids_of h hn]
  have := h.keys n hn
  refine List.nodup_iff_pairwise_ne.2 (List.pairwise_map.2 ((List.pairwise_map.1 (List.nodup_iff_pairwise_ne.1 this)).imp fun {a b} q e => q ?_))
  have := List.append_inj' e rfl
  simpa using this.2
/-- The level below. -/
theorem level_next (h : Shape N Q) {L : List Bytes} {d : Nat} (h1 : ∀ u ∈ L, Q u ∧ u.length = d) (h2 : ∀ u, Q u → u.length = d → u ∈ L) (h3 : L.Nodup) (hpre : ∀ u b, Q (u ++ [b]) → Q u) :
    (∀ u ∈ L.flatMap (kids N), Q u ∧ u.length = d + 1) ∧ (∀ u, Q u → u.length = d + 1 → u ∈ L.flatMap (kids N)) ∧ (L.flatMap (kids N)).Nodup := by
  have mem : ∀ u, u ∈ L.flatMap (kids N) ↔ Q u ∧ u.length = d + 1 := fun u => by
    rw [List.mem_flatMap]
    constructor
    · rintro ⟨x, hx, hu⟩
      obtain ⟨q1, q2⟩ := h1 x hx
      obtain ⟨n, hn, rfl⟩ := (h.all x).1 q1
      obtain ⟨g1, b, rfl⟩ := (kids_mem h hn u).1 hu
      exact ⟨g1, by rw [List.length_append, q2]; rfl⟩
    · rintro ⟨q1, q2⟩
      obtain ⟨x, b, rfl⟩ : ∃ x b, u = x ++ [b] := by
        have hne : u ≠ [] := fun e => by rw [e] at q2; simp at q2
        exact ⟨u.dropLast, u.getLast hne, (List.dropLast_concat_getLast hne).symm⟩
      have qx := hpre x b q1
      rw [List.length_append] at q2
      obtain ⟨n, hn, rfl⟩ := (h.all x).1 qx
      exact ⟨n.s, h2 _ qx (by simpa using q2), (kids_mem h hn _).2 ⟨q1, b, rfl⟩⟩
  refine ⟨fun u hu => (mem u).1 hu, fun u a b => (mem u).2 ⟨a, b⟩, ?_⟩
  refine List.nodup_iff_pairwise_ne.2 (List.pairwise_flatMap.2 ⟨fun x hx => ?_, ?_⟩)
  · obtain ⟨q1, _⟩ := h1 x hx
    obtain ⟨n, hn, rfl⟩ := (h.all x).1 q1
    exact List.nodup_iff_pairwise_ne.1 (kids_nodup h hn)
  · refine (List.Pairwise.and_mem.1 (List.nodup_iff_pairwise_ne.1 h3)).imp ?_
    rintro x y ⟨hx, hy, hne⟩ a ha b hb rfl
    obtain ⟨qx, _⟩ := h1 x hx
    obtain ⟨qy, _⟩ := h1 y hy
    obtain ⟨n, hn, rfl⟩ := (h.all x).1 qx
    obtain ⟨m, hm, rfl⟩ := (h.all y).1 qy
    obtain ⟨_, b1, e1⟩ := (kids_mem h hn a).1 ha
    obtain ⟨_, b2, e2⟩ := (kids_mem h hm a).1 hb
    exact hne (List.append_inj' (e1.symm.trans e2) rfl).1
theorem level_len (h : Shape N Q) {L : List Bytes} (h1 : ∀ u ∈ L, Q u) (hn : L.Nodup) : L.length ≤ N.length := by
  have hp : L.Perm ((N.map (·.s)).filter fun u => u ∈ L) := (List.perm_ext_iff_of_nodup hn (h.nd.sublist List.filter_sublist)).2 fun u => by
    rw [List.mem_filter]
    constructor
    · intro hu
      obtain ⟨n, hn, rfl⟩ := (h.all u).1 (h1 u hu)
      exact ⟨List.mem_map_of_mem hn, by simpa using hu⟩
    · rintro ⟨_, hu⟩; simpa using hu
  rw [hp.length_eq]
  exact Nat.le_trans (List.length_filter_le _ _) (by rw [List.length_map]; exact Nat.le_refl _)
end
theorem lvC_at {N : List Nd} {L : List Bytes} {i : Nat} {u : Bytes} (h : L[i]? = some u) : takeN 1 ((lvC N L).drop (i * 1)) = some [.ptr (plOf N u).1 (plOf N u).2 0] := by
  have hi := (List.getElem?_eq_some_iff.1 h).1
  rw [Nat.mul_one, List.drop_eq_getElem_cons (by unfold lvC; simpa using hi)]
  unfold lvC
  simp [takeN, (List.getElem?_eq_some_iff.1 h).2]
theorem lvC_len (N : List Nd) (L : List Bytes) : (lvC N L).length = L.length := List.length_map ..
theorem seen_perm {seen : List Nat} {n : Nat} (h1 : seen.Nodup) (h2 : ∀ i ∈ seen, i < n) (h3 : ∀ i, i < n → i ∈ seen) : seen.Perm (List.range n) :=
  (List.perm_ext_iff_of_nodup h1 List.nodup_range).2 fun i => ⟨fun h => List.mem_range.2 (h2 i h), fun h => h3 i (List.mem_range.1 h)⟩
theorem seen_len {seen : List Nat} {n : Nat} (h1 : seen.Nodup) (h2 : ∀ i ∈ seen, i < n) : seen.length ≤ n := by
  have hp : seen.Perm ((List.range n).filter fun i => i ∈ seen) := (List.perm_ext_iff_of_nodup h1 (List.nodup_range.sublist List.filter_sublist)).2 fun i => by
    rw [List.mem_filter, List.mem_range]
    exact ⟨fun h => ⟨h2 i h, by simpa using h⟩, fun h => by simpa using h.2⟩
  rw [hp.length_eq]
  exact Nat.le_trans (List.length_filter_le _ _) (by rw [List.length_range]; exact Nat.le_refl _)
end Go.Proofs.Ytfelfimcnidplaa.F
