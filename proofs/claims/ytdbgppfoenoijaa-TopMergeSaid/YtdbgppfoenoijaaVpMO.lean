/-
  Merging: the rule's way, step by step.
-/
import Derived.Test.YtdbgppfoenoijaaVpMN
set_option linter.unusedVariables false
set_option linter.unusedSimpArgs false
namespace Go.Fu
open Go.Vc
def tStep (other : Lines) (u : TS) (p : Step) : TS := (List.replicate p.2.toNat p.1).foldl (tUnit other) u
def tUnits (other : Lines) (u : TS) (k : Int) (i : Nat) : TS := (List.replicate i k).foldl (tUnit other) u
theorem tUnits_succ (other : Lines) (u : TS) (k : Int) (i : Nat) : tUnits other u k (i + 1) = tUnit other (tUnits other u k i) k := by
  unfold tUnits
  rw [List.replicate_succ', List.foldl_append]; rfl
theorem touchOf_steps (base other : Lines) : touchOf base other = ((stepsOf (wayKinds base other)).foldl (tStep other) tStart).t := by
  unfold touchOf
  conv => lhs; rw [← (flat_steps (wayKinds base other)).1]
  unfold flatS
  rw [List.foldl_flatMap]
  rfl
theorem tUnits_at (other : Lines) (u : TS) (k : Int) (hk : 1 ≤ k ∧ k ≤ 3) (i : Nat) : (tUnits other u k i).at_ = u.at_ + (if k = 3 then 0 else i) ∧ (tUnits other u k i).to = u.to + (if k = 2 then 0 else i) := by
  induction i with
  | zero => simp [tUnits]
  | succ i ih =>
    rw [tUnits_succ]
    rcases (by omega : k = 1 ∨ k = 2 ∨ k = 3) with rfl | rfl | rfl <;> simp [tUnit] at ih ⊢ <;> omega
theorem tSteps_same (other : Lines) : ∀ (l : List Step) (u : TS) (s : HS), (∀ p ∈ l, 1 ≤ p.2 ∧ 1 ≤ p.1 ∧ p.1 ≤ 3) → u.at_ = s.at_ → u.to = s.to → (l.foldl (tStep other) u).at_ = (l.foldl (hStep other) s).at_ ∧ (l.foldl (tStep other) u).to = (l.foldl (hStep other) s).to
  | [], u, s, _, h1, h2 => ⟨h1, h2⟩
  | p :: l, u, s, h, h1, h2 => by
    obtain ⟨a1, a2⟩ := hStep_to other s p (h p (List.mem_cons_self ..))
    obtain ⟨b1, b2⟩ := tUnits_at other u p.1 (h p (List.mem_cons_self ..)).2 p.2.toNat
    exact tSteps_same other l (tStep other u p) (hStep other s p) (fun q hq => h q (List.mem_cons_of_mem _ hq)) (by rw [a2, ← h1]; exact b1) (by rw [a1, ← h2]; exact b2)
theorem t_place (base other : Lines) (j : Nat) {s : Step} (hj : (stepsOf (wayKinds base other))[j]? = some s) : (((stepsOf (wayKinds base other)).take j).foldl (tStep other) tStart).to + (if s.1 = 2 then 0 else s.2.toNat) ≤ other.length ∧ (((stepsOf (wayKinds base other)).take j).foldl (tStep other) tStart).at_ + (if s.1 = 3 then 0 else s.2.toNat) ≤ base.length ∧
    ((stepsOf (wayKinds base other)).take (j + 1)).foldl (tStep other) tStart = tStep other (((stepsOf (wayKinds base other)).take j).foldl (tStep other) tStart) s := by
  obtain ⟨p1, p2, _⟩ := way_place base other j hj
  obtain ⟨q1, q2⟩ := tSteps_same other ((stepsOf (wayKinds base other)).take j) tStart hStart (fun p hp => way_steps base other p (List.mem_of_mem_take hp)) rfl rfl
  refine ⟨by rw [q2]; exact p1, by rw [q1]; exact p2, ?_⟩
  have e1 : (stepsOf (wayKinds base other)).take (j + 1) = (stepsOf (wayKinds base other)).take j ++ [s] := by rw [List.take_add_one, hj]; rfl
  rw [e1, List.foldl_append]; rfl
/-- How many lines are put. -/
def TB (u : TS) : Prop := ∀ i, (u.t.put i).length ≤ u.to
theorem TB.unit {other : Lines} {u : TS} (h : TB u) (k : Int) : TB (tUnit other u k) := by
  intro i
  have := h i
  unfold tUnit
  split
  · simp only; omega
  split
  · exact this
  · simp only
    split
    · simp only [List.length_append, List.length_singleton]; omega
    · omega
theorem TB.units {other : Lines} {u : TS} (h : TB u) (k : Int) (i : Nat) : TB (tUnits other u k i) := by
  induction i with
  | zero => exact h
  | succ i ih => rw [tUnits_succ]; exact ih.unit k
theorem TB.steps {other : Lines} : ∀ (l : List Step) {u : TS}, TB u → TB (l.foldl (tStep other) u)
  | [], u, h => h
  | p :: l, u, h => TB.steps l (h.units p.1 p.2.toNat)
theorem TB.start : TB tStart := fun i => by simp [tStart]
theorem touch_few (base other : Lines) (i : Nat) : ((touchOf base other).put i).length ≤ other.length := by
  have h : TB ((stepsOf (wayKinds base other)).foldl (tStep other) tStart) := TB.start.steps _
  have e := tSteps_same other (stepsOf (wayKinds base other)) tStart hStart (way_steps base other) rfl rfl
  rw [touchOf_steps]
  have := h i
  rw [e.2, (hSteps_end base other).1] at this
  exact this
/-- A row of yes and no. -/
def bl (g : Nat → Bool) (n : Nat) : List AVal := (List.range n).map fun i => .bool (g i)
theorem bl_len (g : Nat → Bool) (n : Nat) : (bl g n).length = n := by simp [bl]
theorem bl_false (n : Nat) : (List.replicate n [AVal.bool false]).flatten = bl (fun _ => false) n := by
  induction n with
  | zero => rfl
  | succ n ih =>
    rw [List.replicate_succ', List.flatten_append, ih]
    unfold bl
    rw [List.range_succ, List.map_append]; rfl
theorem setCells_set : ∀ (cs : List AVal) (a : Nat) (x : AVal), a < cs.length → setCells cs a [x] = cs.set a x
  | [], a, x, h => by simp at h
  | c :: cs, 0, x, h => by cases cs <;> rfl
  | c :: cs, a + 1, x, h => by
    show c :: setCells cs a [x] = _
    rw [setCells_set cs a x (by simpa using h)]; rfl
theorem bl_set {g : Nat → Bool} {n a : Nat} (h : a < n) : setCells (bl g n) a [.bool true] = bl (fun i => if i = a then true else g i) n := by
  rw [setCells_set _ _ _ (by rw [bl_len]; exact h)]
  apply List.ext_getElem
  · simp [bl_len]
  · intro i h1 h2
    rw [List.getElem_set]
    simp only [bl, List.getElem_map, List.getElem_range]
    split
    · rename_i e; subst e; simp
    · rename_i e; rw [if_neg (by omega)]
theorem bl_at {g : Nat → Bool} {n a : Nat} (h : a < n) : takeN 1 ((bl g n).drop a) = some [.bool (g a)] := by
  rw [takeN_of_le _ _ (by rw [List.length_drop, bl_len]; omega), List.drop_eq_getElem_cons (by rw [bl_len]; exact h)]
  simp [bl]
/-- What is put, as a list. -/
def pl (p : Nat → Lines) (n : Nat) : List Lines := (List.range n).map p
theorem pl_len (p : Nat → Lines) (n : Nat) : (pl p n).length = n := by simp [pl]
theorem pl_at {p : Nat → Lines} {n a : Nat} (h : a < n) : (pl p n)[a]? = some (p a) := by
  rw [List.getElem?_eq_getElem (by rw [pl_len]; exact h)]; simp [pl]
theorem pl_set {p : Nat → Lines} {n a : Nat} {e : Lines} (h : a < n) : (pl p n).set a e = pl (fun i => if i = a then e else p i) n := by
  apply List.ext_getElem
  · simp [pl_len]
  · intro i h1 h2
    rw [List.getElem_set]
    simp only [pl, List.getElem_map, List.getElem_range]
    split
    · rename_i e; subst e; simp
    · rename_i e; rw [if_neg (by omega)]
/-- What a way touches, as lists: gaps, lines that go, what is put. -/
def touchL (base other : Lines) : List Bool × List Bool × List Lines := ((List.range (base.length + 1)).map (touchOf base other).gap, (List.range base.length).map (touchOf base other).gone, pl (touchOf base other).put (base.length + 1))
def ref_touched_ct : Ct := ⟨tys2 (.sl .str) (.sl .str), [.val (.sl .bool), .val (.sl .bool), .val (.sl (.sl .str))], fun x => linesFault [x.1, x.2] = 0, fun x => touchL x.1 x.2⟩
theorem fault_two {a b : Lines} (h : linesFault [a, b] = 0) : a.length ≤ 80 ∧ b.length ≤ 80 := by
  have h2 : ¬ ∃ l ∈ [a, b], 80 < l.length ∨ ∃ s ∈ l, 600 < s.length := fun q => by have := (linesFault_iff [a, b]).2.2 q; omega
  refine ⟨?_, ?_⟩
  · refine Classical.byContradiction fun q => h2 ⟨a, by simp, .inl (by omega)⟩
  · refine Classical.byContradiction fun q => h2 ⟨b, by simp, .inl (by omega)⟩
end Go.Fu
