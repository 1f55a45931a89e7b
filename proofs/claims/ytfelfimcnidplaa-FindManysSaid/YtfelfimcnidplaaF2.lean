/- A machine of many finds: how it grows. Conditions: none. -/
import Derived.Test.YtfelfimcnidplaaF1
set_option linter.unusedVariables false
set_option linter.unusedSimpArgs false
set_option maxRecDepth 100000
namespace Go.Proofs.Ytfelfimcnidplaa.F
open Go.Vc Go.Fu
def sk (n : Nd) : List UInt8 × Nat × Nat × List (UInt8 × Nat × Nat) := (n.s, n.p, n.v, n.es)
theorem sk_back {N N' : List Nd} (h : N'.map sk = N.map sk) {n : Nd} (hn : n ∈ N') : ∃ c ∈ N, c.s = n.s ∧ c.p = n.p ∧ c.v = n.v ∧ c.es = n.es := by
  have : sk n ∈ N.map sk := by rw [← h]; exact List.mem_map_of_mem hn
  obtain ⟨c, hc, e⟩ := List.mem_map.1 this
  simp only [sk, Prod.mk.injEq] at e
  exact ⟨c, hc, e.1, e.2.1, e.2.2.1, e.2.2.2⟩
theorem Shape.sk {N N' : List Nd} {Q : List UInt8 → Prop} (h : Shape N Q) (e : N'.map sk = N.map sk) : Shape N' Q := by
  have es : N'.map (·.s) = N.map (·.s) := by
    have := congrArg (List.map (·.1)) e
    simpa [List.map_map, Function.comp_def, F.sk] using this
  refine ⟨by rw [es]; exact h.nd, fun n hn b p v hb => ?_, fun c hc u b hu => ?_, fun n hn => ?_, fun u => ?_⟩
  · obtain ⟨n1, hn1, e1, e2, e3, e4⟩ := sk_back e hn
    obtain ⟨c, hc, q1, q2, q3⟩ := h.down n1 hn1 b p v (by rw [e4]; exact hb)
    obtain ⟨c', hc', d1, d2, d3, d4⟩ := sk_back e.symm hc
    exact ⟨c', hc', by rw [d1, q1, e1], by rw [d2, q2], by rw [d3, q3]⟩
  · obtain ⟨c1, hc1, e1, e2, e3, e4⟩ := sk_back e hc
    obtain ⟨n, hn, q1, q2⟩ := h.up c1 hc1 u b (by rw [e1]; exact hu)
    obtain ⟨n', hn', d1, d2, d3, d4⟩ := sk_back e.symm hn
    exact ⟨n', hn', by rw [d1, q1], by rw [d4, ← e2, ← e3]; exact q2⟩
  · obtain ⟨n1, hn1, e1, e2, e3, e4⟩ := sk_back e hn
    rw [← e4]; exact h.keys n1 hn1
  · rw [h.all u]
    constructor
    · rintro ⟨n, hn, q⟩
      obtain ⟨n', hn', d1, _⟩ := sk_back e.symm hn
      exact ⟨n', hn', by rw [d1, q]⟩
    · rintro ⟨n, hn, q⟩
      obtain ⟨n', hn', d1, _⟩ := sk_back e hn
      exact ⟨n', hn', by rw [d1, q]⟩
theorem Shape.fresh {N : List Nd} {Q : List UInt8 → Prop} (h : Shape N Q) {m : Nd} (hm : m ∈ N) {b : UInt8} (hq : ¬ Q (m.s ++ [b])) : b ∉ m.es.map (·.1) := fun hb => by
  obtain ⟨⟨b', p, v⟩, he, rfl⟩ := List.mem_map.1 hb
  obtain ⟨c, hc, q, _⟩ := h.down m hm b' p v he
  exact hq ((h.all _).2 ⟨c, hc, q⟩)
/-- A state more. -/
theorem Shape.more {A B : List Nd} {m c : Nd} {Q Q' : List UInt8 → Prop} {b : UInt8} (h : Shape (A ++ m :: B) Q) (hq : ¬ Q (m.s ++ [b])) (hc : c.s = m.s ++ [b]) (hce : c.es = []) (hQ : ∀ u, Q' u ↔ Q u ∨ u = m.s ++ [b]) :
    Shape (A ++ { m with es := m.es ++ [(b, c.p, c.v)] } :: (B ++ [c])) Q' := by
  have hm : m ∈ A ++ m :: B := by simp
  have mem : ∀ x, x ∈ A ++ { m with es := m.es ++ [(b, c.p, c.v)] } :: (B ++ [c]) ↔ x ∈ A ∨ x = { m with es := m.es ++ [(b, c.p, c.v)] } ∨ x ∈ B ∨ x = c := fun x => by simp
  have old : ∀ x, x ∈ A ++ m :: B ↔ x ∈ A ∨ x = m ∨ x ∈ B := fun x => by simp
  have fwd : ∀ x ∈ A ++ m :: B, ∃ y ∈ A ++ { m with es := m.es ++ [(b, c.p, c.v)] } :: (B ++ [c]), y.s = x.s ∧ y.p = x.p ∧ y.v = x.v ∧ ∀ e ∈ x.es, e ∈ y.es := fun x hx => by
    rcases (old x).1 hx with hx | rfl | hx
    · exact ⟨x, (mem x).2 (.inl hx), rfl, rfl, rfl, fun e he => he⟩
    · exact ⟨_, (mem _).2 (.inr (.inl rfl)), rfl, rfl, rfl, fun e he => List.mem_append_left _ he⟩
    · exact ⟨x, (mem x).2 (.inr (.inr (.inl hx))), rfl, rfl, rfl, fun e he => he⟩
  refine ⟨?_, fun n hn b' p v hb => ?_, fun d hd u b' hu => ?_, fun n hn => ?_, fun u => ?_⟩
  · have e : (A ++ { m with es := m.es ++ [(b, c.p, c.v)] } :: (B ++ [c])).map (·.s) = (A ++ m :: B).map (·.s) ++ [c.s] := by simp
    rw [e]
    refine List.nodup_append.2 ⟨h.nd, by simp, fun x hx y hy => ?_⟩
    rintro rfl
    simp only [List.mem_singleton] at hy
    obtain ⟨n, hn, q⟩ := List.mem_map.1 hx
    exact hq ((h.all _).2 ⟨n, hn, by rw [q, hy, hc]⟩)
  · have go : ∀ x ∈ A ++ m :: B, (b', p, v) ∈ x.es → ∃ c1 ∈ A ++ { m with es := m.es ++ [(b, c.p, c.v)] } :: (B ++ [c]), c1.s = x.s ++ [b'] ∧ c1.p = p ∧ c1.v = v := fun x hx he => by
      obtain ⟨d, hd, q1, q2, q3⟩ := h.down x hx b' p v he
      obtain ⟨y, hy, y1, y2, y3, _⟩ := fwd d hd
      exact ⟨y, hy, by rw [y1, q1], by rw [y2, q2], by rw [y3, q3]⟩
    rcases (mem n).1 hn with hn | rfl | hn | rfl
    · exact go n ((old n).2 (.inl hn)) hb
    · rcases List.mem_append.1 hb with hb | hb
      · exact go m hm hb
      · simp only [List.mem_singleton, Prod.mk.injEq] at hb
        obtain ⟨rfl, rfl, rfl⟩ := hb
        exact ⟨c, (mem c).2 (.inr (.inr (.inr rfl))), hc, rfl, rfl⟩
    · exact go n ((old n).2 (.inr (.inr hn))) hb
    · rw [hce] at hb; cases hb
  · have go : ∀ x ∈ A ++ m :: B, x.s = u ++ [b'] → ∃ n ∈ A ++ { m with es := m.es ++ [(b, c.p, c.v)] } :: (B ++ [c]), n.s = u ∧ (b', x.p, x.v) ∈ n.es := fun x hx he => by
      obtain ⟨n, hn, q1, q2⟩ := h.up x hx u b' he
      obtain ⟨y, hy, y1, y2, y3, y4⟩ := fwd n hn
      exact ⟨y, hy, by rw [y1, q1], y4 _ q2⟩
    rcases (mem d).1 hd with hd | rfl | hd | rfl
    · exact go d ((old d).2 (.inl hd)) hu
    · exact go m hm hu
    · exact go d ((old d).2 (.inr (.inr hd))) hu
    · rw [hc] at hu
      obtain ⟨e1, e2⟩ := List.append_inj' hu rfl
      cases e2
      exact ⟨_, (mem _).2 (.inr (.inl rfl)), e1, by simp⟩
  · rcases (mem n).1 hn with hn | rfl | hn | rfl
    · exact h.keys n ((old n).2 (.inl hn))
    · simp only [List.map_append, List.map_cons, List.map_nil]
      refine List.nodup_append.2 ⟨h.keys m hm, by simp, fun x hx y hy => ?_⟩
      rintro rfl
      simp only [List.mem_singleton] at hy
      subst hy
      exact h.fresh hm hq hx
    · exact h.keys n ((old n).2 (.inr (.inr hn)))
    · rw [hce]; exact List.nodup_nil
  · rw [hQ u, h.all u]
    constructor
    · rintro (⟨n, hn, q⟩ | rfl)
      · obtain ⟨y, hy, y1, _⟩ := fwd n hn
        exact ⟨y, hy, by rw [y1, q]⟩
      · exact ⟨c, (mem c).2 (.inr (.inr (.inr rfl))), hc⟩
    · rintro ⟨n, hn, q⟩
      rcases (mem n).1 hn with hn | rfl | hn | rfl
      · exact .inl ⟨n, (old n).2 (.inl hn), q⟩
      · exact .inl ⟨m, hm, q⟩
      · exact .inl ⟨n, (old n).2 (.inr (.inr hn)), q⟩
      · exact .inr (by rw [← q, hc])
noncomputable section
def fdOf (fs : List Bytes) (i : Nat) (u : Bytes) : Int := open Classical in if u ∈ fs.take i then idxI fs u else -1
end
/-- What is known while the finds are put in. -/
structure Grown (fs : List Bytes) (N : List Nd) (Q : List UInt8 → Prop) (fd : Bytes → Int) (rp rv : Nat) : Prop where
  sh : Shape N Q
  fd : ∀ n ∈ N, n.fd = fd n.s
  bk0 : ∀ n ∈ N, n.s = [] → n.bk = some (rp, rv) ∧ n.p = rp ∧ n.v = rv
  bk1 : ∀ n ∈ N, n.s ≠ [] → n.bk = none
theorem nd_take (fs : List Bytes) {i : Nat} {s : Bytes} (hs : fs[i]? = some s) (u : Bytes) : isNd (fs.take (i + 1)) u ↔ isNd (fs.take i) u ∨ u <+: s := by
  unfold isNd
  rw [List.take_add_one, hs]
  constructor
  · rintro (h | ⟨f, hf, h⟩)
    · exact .inl (.inl h)
    · rcases List.mem_append.1 hf with hf | hf
      · exact .inl (.inr ⟨f, hf, h⟩)
      · simp only [Option.toList_some, List.mem_singleton] at hf; subst hf; exact .inr h
  · rintro ((h | ⟨f, hf, h⟩) | h)
    · exact .inl h
    · exact .inr ⟨f, List.mem_append_left _ hf, h⟩
    · exact .inr ⟨s, by simp, h⟩
theorem pre_take (s : Bytes) {k : Nat} (hk : k < s.length) (u : Bytes) : u <+: s.take (k + 1) ↔ u <+: s.take k ∨ u = s.take k ++ [s[k]] := by
  rw [List.take_add_one, List.getElem?_eq_getElem hk]
  simp only [Option.toList_some]
  exact List.prefix_concat_iff.trans Or.comm
end Go.Proofs.Ytfelfimcnidplaa.F
