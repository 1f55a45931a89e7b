/-
  Merging: hunks, and what they make of a part; gaps, dropped lines and lines put in.
-/
import Derived.Test.YtdbgppfoenoijaaVpT
set_option linter.unusedVariables false
set_option linter.unusedSimpArgs false
namespace Go.Fu
/-- From lo to hi stand other lines. -/
abbrev Hunk := Nat × Nat × Lines
/-- What hunks make of a part. -/
def mkL (base : Lines) : Nat → Nat → List Hunk → Lines
  | lo, hi, [] => (base.take hi).drop lo
  | lo, hi, h :: l => (base.take h.1).drop lo ++ h.2.2 ++ mkL base h.2.1 hi l
/-- What is told of the gaps: what is put there; which lines go. -/
structure Tch where
  gap : Nat → Bool
  gone : Nat → Bool
  put : Nat → Lines
/-- Lines kept of i, and what is put behind it. -/
def cell (base : Lines) (t : Tch) (i : Nat) : Lines := (if t.gone i then [] else [base.getD i []]) ++ t.put (i + 1)
def seg (base : Lines) (t : Tch) (a : Nat) : Nat → Lines
  | 0 => []
  | n + 1 => seg base t a n ++ cell base t (a + n)
theorem seg_add (base : Lines) (t : Tch) (a n m : Nat) : seg base t a (n + m) = seg base t a n ++ seg base t (a + n) m := by
  induction m with
  | zero => simp [seg]
  | succ m ih => rw [← Nat.add_assoc]; simp only [seg]; rw [ih, List.append_assoc, Nat.add_assoc]
/-- The rule's part. -/
def mk1 (base : Lines) (t : Tch) (lo hi : Nat) : Lines := t.put lo ++ seg base t lo (hi - lo)
/-- Hunks one behind the other, from a on, within n. -/
def HOk (n : Nat) : Nat → List Hunk → Prop
  | _, [] => True
  | a, h :: l => a ≤ h.1 ∧ h.1 ≤ h.2.1 ∧ h.2.1 ≤ n ∧ HOk n (h.2.1 + 1) l
theorem HOk.mono {n : Nat} : ∀ {l : List Hunk} {a b : Nat}, HOk n a l → b ≤ a → HOk n b l
  | [], _, _, _, _ => trivial
  | h :: l, a, b, ⟨h1, h2, h3, h4⟩, hb => ⟨by omega, h2, h3, h4⟩
/-- What is told of the gaps is what the hunks say. -/
structure Says (n : Nat) (base : Lines) (H : List Hunk) (t : Tch) : Prop where
  gap : ∀ i, t.gap i = true ↔ ∃ h ∈ H, h.1 ≤ i ∧ i ≤ h.2.1
  gone : ∀ i, t.gone i = true ↔ ∃ h ∈ H, h.1 ≤ i ∧ i < h.2.1
  none : ∀ i, (∀ h ∈ H, ¬ (h.1 ≤ i ∧ i ≤ h.2.1)) → t.put i = []
  put : ∀ h ∈ H, mk1 base t h.1 h.2.1 = h.2.2
/-- No hunk between: the lines as they stand. -/
theorem seg_free {n : Nat} {base : Lines} {H : List Hunk} {t : Tch} (hs : Says n base H t) (hn : base.length = n) {a : Nat} : ∀ (k : Nat), a + k ≤ n → (∀ h ∈ H, h.2.1 ≤ a ∨ a + k ≤ h.1) → 0 < k → seg base t a k = (base.take (a + k)).drop a ++ t.put (a + k)
  | 0, _, _, h => absurd h (by omega)
  | k + 1, hk, h1, _ => by
    have hg : t.gone (a + k) = false := by
      cases hgo : t.gone (a + k) with
      | false => rfl
      | true =>
        obtain ⟨h, hh, q1, q2⟩ := (hs.gone _).1 hgo
        have := h1 h hh
        omega
    have hd : (base.take (a + (k + 1))).drop a = (base.take (a + k)).drop a ++ [base.getD (a + k) []] := by
      have hlt : a + k < base.length := by omega
      rw [show a + (k + 1) = a + k + 1 by omega, List.take_add_one, List.getElem?_eq_getElem hlt, List.drop_append_of_le_length (by rw [List.length_take]; omega)]
      simp [List.getD, List.getElem?_eq_getElem hlt]
    by_cases h0 : k = 0
    · subst h0
      simp only [seg, cell, hg, hd]
      simp
    · have ih := seg_free hs hn (a := a) k (by omega) (fun h hh => by have := h1 h hh; omega) (by omega)
      have hp : t.put (a + k) = [] := hs.none _ fun h hh q => by have := h1 h hh; omega
      simp only [seg, cell, hg, hd, ih, hp]
      simp [Nat.add_assoc]
/-- What the rule makes of a part is what its hunks make of it: behind a hunk's end. -/
theorem mk_behind {n : Nat} {base : Lines} {H : List Hunk} {t : Tch} (hs : Says n base H t) (hn : base.length = n) {hi : Nat} (hhi : hi ≤ n) : ∀ (l : List Hunk) (a : Nat), a ≤ hi → HOk hi (a + 1) l → (∀ h ∈ l, h ∈ H) → (∀ h ∈ H, h.2.1 ≤ a ∨ h ∈ l ∨ hi < h.1) → seg base t a (hi - a) = mkL base a hi l
  | [], a, ha, _, _, hf => by
    unfold mkL
    by_cases h0 : a = hi
    · subst h0; simp [seg]
    · have := seg_free hs hn (a := a) (hi - a) (by omega) (fun h hh => (hf h hh).elim .inl fun q => q.elim (fun q => by cases q) fun q => .inr (by omega)) (by omega)
      rw [this, show a + (hi - a) = hi by omega, hs.none hi fun h hh q => ?_, List.append_nil]
      rcases hf h hh with z | z | z
      · omega
      · cases z
      · omega
  | g :: l, a, ha, ⟨g1, g2, g3, g4⟩, hm, hf => by
    unfold mkL
    have hall : ∀ h ∈ l, g.2.1 < h.1 := by
      have : ∀ (l : List Hunk) (b : Nat), HOk hi b l → ∀ h ∈ l, b ≤ h.1 := by
        intro l
        induction l with
        | nil => intro b _ h hh; cases hh
        | cons x l ih =>
          intro b ⟨x1, x2, x3, x4⟩ h hh
          rcases List.mem_cons.1 hh with rfl | hh
          · exact x1
          · have := ih _ x4 h hh; omega
      intro h hh
      have := this l _ g4 h hh; omega
    have e1 : hi - a = (g.1 - a) + ((g.2.1 - g.1) + (hi - g.2.1)) := by omega
    rw [e1, seg_add, seg_add, show a + (g.1 - a) = g.1 by omega, show g.1 + (g.2.1 - g.1) = g.2.1 by omega]
    rw [seg_free hs hn (a := a) (g.1 - a) (by omega) (fun h hh => by
      rcases hf h hh with q | q | q
      · exact .inl q
      · rcases List.mem_cons.1 q with rfl | q
        · exact .inr (by omega)
        · have := hall h q; exact .inr (by omega)
      · exact .inr (by omega)) (by omega), show a + (g.1 - a) = g.1 by omega]
    have hp := hs.put g (hm g (List.mem_cons_self ..))
    unfold mk1 at hp
    rw [← hp, mk_behind hs hn hhi l g.2.1 g3 g4 (fun h hh => hm h (List.mem_cons_of_mem _ hh)) fun h hh => ?_]
    · simp only [List.append_assoc]
    rcases hf h hh with q | q | q
    · exact .inl (by omega)
    · rcases List.mem_cons.1 q with rfl | q
      · exact .inl (Nat.le_refl _)
      · exact .inr (.inl q)
    · exact .inr (.inr q)
/-- .. and of the whole part. -/
theorem mk_part {n : Nat} {base : Lines} {H : List Hunk} {t : Tch} (hs : Says n base H t) (hn : base.length = n) {lo hi : Nat} (hlo : lo ≤ hi) (hhi : hi ≤ n) (l : List Hunk) (hl : HOk hi lo l) (hm : ∀ h ∈ l, h ∈ H) (hf : ∀ h ∈ H, h.2.1 < lo ∨ h ∈ l ∨ hi < h.1) : mk1 base t lo hi = mkL base lo hi l := by
  cases l with
  | nil =>
    unfold mk1
    rw [hs.none lo fun h hh q => ?_, List.nil_append]
    · exact mk_behind hs hn hhi [] lo hlo trivial hm fun h hh => (hf h hh).elim (fun q => .inl (by omega)) fun q => q.elim (fun q => by cases q) fun q => .inr (.inr q)
    rcases hf h hh with z | z | z
    · omega
    · cases z
    · omega
  | cons g l =>
    obtain ⟨g1, g2, g3, g4⟩ := hl
    by_cases h0 : lo = g.1
    · subst h0
      have hp := hs.put g (hm g (List.mem_cons_self ..))
      unfold mk1 at hp ⊢
      unfold mkL
      have e1 : hi - g.1 = (g.2.1 - g.1) + (hi - g.2.1) := by omega
      rw [e1, seg_add, show g.1 + (g.2.1 - g.1) = g.2.1 by omega, ← List.append_assoc, hp, mk_behind hs hn hhi l g.2.1 g3 g4 (fun h hh => hm h (List.mem_cons_of_mem _ hh)) fun h hh => ?_]
      · rw [List.drop_of_length_le (by rw [List.length_take]; omega)]; rfl
      rcases hf h hh with q | q | q
      · exact .inl (by omega)
      · rcases List.mem_cons.1 q with rfl | q
        · exact .inl (Nat.le_refl _)
        · exact .inr (.inl q)
      · exact .inr (.inr q)
    · unfold mk1
      rw [hs.none lo fun h hh q => ?_, List.nil_append]
      · exact mk_behind hs hn hhi (g :: l) lo hlo ⟨by omega, g2, g3, g4⟩ hm fun h hh => (hf h hh).elim (fun q => .inl (by omega)) .inr
      have hall : ∀ (l : List Hunk) (b : Nat), HOk hi b l → ∀ h ∈ l, b ≤ h.1 := by
        intro l
        induction l with
        | nil => intro b _ h hh; cases hh
        | cons x l ih =>
          intro b ⟨x1, x2, x3, x4⟩ h hh
          rcases List.mem_cons.1 hh with rfl | hh
          · exact x1
          · have := ih _ x4 h hh; omega
      rcases hf h hh with z | z | z
      · omega
      · rcases List.mem_cons.1 z with rfl | z
        · omega
        · have := hall l _ g4 h z; omega
      · omega
end Go.Fu
