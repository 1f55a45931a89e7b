/-
  What two lists of lines have in common; the cost of the way from one to the other.
-/
import Derived.Test.YtdbgppfoenoijaaVpE
set_option linter.unusedVariables false
set_option linter.unusedSimpArgs false
namespace Go.Fu
open Go.Vc
noncomputable section
abbrev Lines := List Bytes
def lcs : Lines → Lines → Nat
  | [], _ => 0
  | _ :: _, [] => 0
  | x :: a, y :: b => if x = y then lcs a b + 1 else max (lcs a (y :: b)) (lcs (x :: a) b)
theorem lcs_nil (a : Lines) : lcs a [] = 0 := by cases a <;> simp [lcs]
theorem lcs_same (x : Bytes) (a b : Lines) : lcs (x :: a) (x :: b) = lcs a b + 1 := by rw [lcs, if_pos rfl]
theorem lcs_diff {x y : Bytes} (h : ¬ x = y) (a b : Lines) : lcs (x :: a) (y :: b) = max (lcs a (y :: b)) (lcs (x :: a) b) := by rw [lcs, if_neg h]
theorem lcs_spec : ∀ a b : Lines, (∃ c : Lines, c.Sublist a ∧ c.Sublist b ∧ c.length = lcs a b) ∧ ∀ c : Lines, c.Sublist a → c.Sublist b → c.length ≤ lcs a b
  | [], b => ⟨⟨[], by simp, by simp, by simp [lcs]⟩, fun c h _ => by
    have := List.sublist_nil.1 h
    subst this; simp⟩
  | x :: a, [] => ⟨⟨[], by simp, by simp, by simp [lcs]⟩, fun c _ h => by
    have := List.sublist_nil.1 h
    subst this; simp⟩
  | x :: a, y :: b => by
    by_cases e : x = y
    · subst e
      obtain ⟨⟨c, c1, c2, c3⟩, h⟩ := lcs_spec a b
      rw [lcs_same]
      refine ⟨⟨x :: c, c1.cons_cons x, c2.cons_cons x, by simp [c3]⟩, fun d d1 d2 => ?_⟩
      cases d with
      | nil => simp
      | cons z d =>
        have e1 : d.Sublist a := List.Sublist.of_cons_cons (List.Sublist.trans (List.Sublist.refl _) d1) |> fun h => h
        have e2 : d.Sublist b := List.Sublist.of_cons_cons d2
        have := h d e1 e2
        simp only [List.length_cons]; omega
    · obtain ⟨⟨c, c1, c2, c3⟩, h1⟩ := lcs_spec a (y :: b)
      obtain ⟨⟨d, d1, d2, d3⟩, h2⟩ := lcs_spec (x :: a) b
      rw [lcs_diff e]
      refine ⟨?_, fun w w1 w2 => ?_⟩
      · rcases Nat.le_total (lcs a (y :: b)) (lcs (x :: a) b) with q | q
        · exact ⟨d, d1, d2.cons y, by omega⟩
        · exact ⟨c, c1.cons x, c2, by omega⟩
      · cases w with
        | nil => simp
        | cons z w =>
          cases w1 with
          | cons _ w1 =>
            have := h1 _ w1 w2; omega
          | cons_cons _ w1 =>
            cases w2 with
            | cons _ w2 =>
              have := h2 _ (w1.cons_cons x) w2; omega
            | cons_cons _ w2 => exact absurd rfl e
theorem lcs_le_l (x : Bytes) (a b : Lines) : lcs a b ≤ lcs (x :: a) b ∧ lcs (x :: a) b ≤ lcs a b + 1 := by
  obtain ⟨⟨c, c1, c2, c3⟩, h1⟩ := lcs_spec a b
  obtain ⟨⟨d, d1, d2, d3⟩, h2⟩ := lcs_spec (x :: a) b
  refine ⟨by rw [← c3]; exact h2 c (c1.cons x) c2, ?_⟩
  rw [← d3]
  cases d with
  | nil => simp
  | cons z d =>
    have := h1 d (List.Sublist.of_cons_cons d1) (List.Sublist.trans (List.sublist_cons_self z d) d2)
    simp only [List.length_cons]; omega
theorem lcs_le_r (y : Bytes) (a b : Lines) : lcs a b ≤ lcs a (y :: b) ∧ lcs a (y :: b) ≤ lcs a b + 1 := by
  obtain ⟨⟨c, c1, c2, c3⟩, h1⟩ := lcs_spec a b
  obtain ⟨⟨d, d1, d2, d3⟩, h2⟩ := lcs_spec a (y :: b)
  refine ⟨by rw [← c3]; exact h2 c c1 (c2.cons y), ?_⟩
  rw [← d3]
  cases d with
  | nil => simp
  | cons z d =>
    have := h1 d (List.Sublist.trans (List.sublist_cons_self z d) d1) (List.Sublist.of_cons_cons d2)
    simp only [List.length_cons]; omega
theorem lcs_len (a b : Lines) : lcs a b ≤ a.length ∧ lcs a b ≤ b.length := by
  obtain ⟨⟨c, c1, c2, c3⟩, _⟩ := lcs_spec a b
  rw [← c3]
  exact ⟨c1.length_le, c2.length_le⟩
theorem lcs_reverse (a b : Lines) : lcs a.reverse b.reverse = lcs a b := by
  obtain ⟨⟨c, c1, c2, c3⟩, h1⟩ := lcs_spec a b
  obtain ⟨⟨d, d1, d2, d3⟩, h2⟩ := lcs_spec a.reverse b.reverse
  have e1 := h2 c.reverse c1.reverse c2.reverse
  have e2 := h1 d.reverse (by have := d1.reverse; rwa [List.reverse_reverse] at this) (by have := d2.reverse; rwa [List.reverse_reverse] at this)
  rw [List.length_reverse] at e1 e2
  omega
/-- Of the first i lines and the first k ones. -/
def lcsP (a b : Lines) (i k : Int) : Nat := lcs (a.take i.toNat).reverse (b.take k.toNat).reverse
theorem lcsP_step {a b : Lines} {i k : Int} (h0 : 0 ≤ i) (h1 : i < a.length) (h2 : 0 ≤ k) (h3 : k < b.length) :
    lcsP a b (i + 1) (k + 1) = if gt a i = gt b k then max (max (lcsP a b i (k + 1)) (lcsP a b (i + 1) k)) (lcsP a b i k + 1) else max (lcsP a b i (k + 1)) (lcsP a b (i + 1) k) := by
  have ea : (a.take (i + 1).toNat).reverse = gt a i :: (a.take i.toNat).reverse := by rw [take_gt h0 h1]; simp
  have eb : (b.take (k + 1).toNat).reverse = gt b k :: (b.take k.toNat).reverse := by rw [take_gt h2 h3]; simp
  simp only [lcsP, ea, eb]
  have g1 := lcs_le_l (gt a i) (a.take i.toNat).reverse (b.take k.toNat).reverse
  have g2 := lcs_le_r (gt b k) (a.take i.toNat).reverse (b.take k.toNat).reverse
  by_cases e : gt a i = gt b k
  · rw [if_pos e, e, lcs_same]
    rw [e] at g1
    omega
  · rw [if_neg e, lcs_diff e]
theorem lcsP_zero_l (a b : Lines) (k : Int) : lcsP a b 0 k = 0 := by simp [lcsP, lcs]
theorem lcsP_zero_r (a b : Lines) (i : Int) : lcsP a b i 0 = 0 := by simp [lcsP, lcs_nil]
theorem lcsP_end (a b : Lines) : lcsP a b a.length b.length = lcs a b := by
  simp only [lcsP, Int.toNat_natCast, List.take_length, lcs_reverse]
/-- The cost from place i and place k on. -/
def wayCost (a b : Lines) (i k : Int) : Int := (a.length - i) + (b.length - k) - 2 * lcs (a.drop i.toNat) (b.drop k.toNat)
theorem wayCost_a {a b : Lines} {k : Int} : wayCost a b a.length k = b.length - k := by
  simp [wayCost, lcs]
theorem wayCost_b {a b : Lines} {i : Int} : wayCost a b i b.length = a.length - i := by
  simp [wayCost, lcs_nil]
theorem wayCost_same {a b : Lines} {i k : Int} (h0 : 0 ≤ i) (h1 : i < a.length) (h2 : 0 ≤ k) (h3 : k < b.length) (e : gt a i = gt b k) : wayCost a b i k = wayCost a b (i + 1) (k + 1) := by
  unfold wayCost
  rw [drop_gt h0 h1, drop_gt h2 h3, e, lcs_same]
  omega
theorem wayCost_diff {a b : Lines} {i k : Int} (h0 : 0 ≤ i) (h1 : i < a.length) (h2 : 0 ≤ k) (h3 : k < b.length) (e : ¬ gt a i = gt b k) : wayCost a b i k = 1 + min (wayCost a b (i + 1) k) (wayCost a b i (k + 1)) := by
  unfold wayCost
  rw [drop_gt h0 h1, drop_gt h2 h3, lcs_diff e]
  omega
theorem wayCost_bd {a b : Lines} {i k : Int} (h0 : 0 ≤ i) (h1 : i ≤ a.length) (h2 : 0 ≤ k) (h3 : k ≤ b.length) : 0 ≤ wayCost a b i k ∧ wayCost a b i k ≤ a.length + b.length := by
  have g := lcs_len (a.drop i.toNat) (b.drop k.toNat)
  simp only [List.length_drop] at g
  unfold wayCost
  omega
def linesFault (ls : List Lines) : Int := open Classical in if ∃ l ∈ ls, 80 < l.length ∨ ∃ s ∈ l, 600 < s.length then 1 else 0
abbrev lsPre (ls : List Lines) : Prop := ls.length ≤ 1000
def diff_fault_ct : Ct := ⟨tys1 (.sl (.sl .str)), [.val tI], fun ls => lsPre ls, fun ls => linesFault ls⟩
def ref_LinesFault_ct : Ct := diff_fault_ct
abbrev linesPre (a : Lines) : Prop := a.length ≤ 80
def ref_common_ct : Ct := ⟨tys2 (.sl .str) (.sl .str), [.val tI], fun x => linesPre x.1 ∧ linesPre x.2, fun x => (lcs x.1 x.2 : Int)⟩
def diffCost (a b : Lines) : Int × Int := if linesFault [a, b] ≠ 0 then (0, linesFault [a, b]) else ((a.length : Int) + b.length - 2 * lcs a b, 0)
def diff_Cost_ct : Ct := ⟨tys2 (.sl .str) (.sl .str), [.val tI, .val tI], fun _ => True, fun x => diffCost x.1 x.2⟩
def ref_DiffCost_ct : Ct := diff_Cost_ct
theorem linesFault_bad {ls : List Lines} {i : Int} (h0 : 0 ≤ i) (h1 : i < ls.length) (h : 80 < (gt ls i).length ∨ ∃ s ∈ gt ls i, 600 < s.length) : linesFault ls = 1 := by
  unfold linesFault; rw [if_pos ⟨_, gt_mem h0 h1, h⟩]
theorem linesFault_good {ls : List Lines} (h : ∀ i : Int, 0 ≤ i → i < ls.length → ¬ (80 < (gt ls i).length ∨ ∃ s ∈ gt ls i, 600 < s.length)) : linesFault ls = 0 := by
  unfold linesFault
  rw [if_neg]
  rintro ⟨l, hl, c⟩
  obtain ⟨j, a, b, rfl⟩ := mem_gt hl
  exact h j a b c
theorem linesFault_len {ls : List Lines} (h : linesFault ls = 0) {a : Lines} (ha : a ∈ ls) : a.length ≤ 80 := by
  unfold linesFault at h
  split at h
  · omega
  · rename_i hn
    rcases Nat.lt_or_ge 80 a.length with c | c
    · exact absurd ⟨a, ha, .inl c⟩ hn
    · exact c
theorem wayCost_all (a b : Lines) : wayCost a b 0 0 = (a.length : Int) + b.length - 2 * lcs a b := by
  simp [wayCost]
/-! steps -/
abbrev Step := Int × Int
abbrev tSt : Ty := .st (.cons tI (.cons tI .nil))
def wayKinds : Lines → Lines → List Int
  | [], [] => []
  | x :: a, [] => 2 :: wayKinds a []
  | [], y :: b => 3 :: wayKinds [] b
  | x :: a, y :: b => if x = y then 1 :: wayKinds a b else if lcs a (y :: b) = lcs (x :: a) (y :: b) then 2 :: wayKinds a (y :: b) else 3 :: wayKinds (x :: a) b
termination_by a b => a.length + b.length
def addStep (l : List Step) (k : Int) : List Step :=
  if l ≠ [] ∧ (gt l ((l.length : Int) - 1)).1 = k then l.set ((l.length : Int) - 1).toNat ((gt l ((l.length : Int) - 1)).1, (gt l ((l.length : Int) - 1)).2 + 1) else l ++ [(k, 1)]
def stepsOf (l : List Int) : List Step := l.foldl addStep []
def diffSteps (a b : Lines) : List Step × Int := if linesFault [a, b] ≠ 0 then ([], linesFault [a, b]) else (stepsOf (wayKinds a b), 0)
def diff_Way_ct : Ct := ⟨tys2 (.sl .str) (.sl .str), [.own tSt], fun x => linesPre x.1 ∧ linesPre x.2, fun x => stepsOf (wayKinds x.1 x.2)⟩
def diff_Steps_ct : Ct := ⟨tys2 (.sl .str) (.sl .str), [.own tSt, .val tI], fun _ => True, fun x => diffSteps x.1 x.2⟩
def ref_DiffSteps_ct : Ct := diff_Steps_ct
theorem wayKinds_len : ∀ (n : Nat) (a b : Lines), a.length + b.length ≤ n → (wayKinds a b).length ≤ a.length + b.length
  | _, [], [], _ => by simp [wayKinds]
  | 0, _ :: _, _, h => by simp at h
  | 0, [], _ :: _, h => by simp at h
  | n + 1, x :: a, [], h => by
    have := wayKinds_len n a [] (by simp at h ⊢; omega)
    rw [wayKinds]; simp at this ⊢; omega
  | n + 1, [], y :: b, h => by
    have := wayKinds_len n [] b (by simp at h ⊢; omega)
    rw [wayKinds]; simp at this ⊢; omega
  | n + 1, x :: a, y :: b, h => by
    simp only [List.length_cons] at h
    have h1 := wayKinds_len n a b (by omega)
    have h2 := wayKinds_len n a (y :: b) (by simp only [List.length_cons]; omega)
    have h3 := wayKinds_len n (x :: a) b (by simp only [List.length_cons]; omega)
    rw [wayKinds]
    simp only [List.length_cons] at h1 h2 h3 ⊢
    split
    · simp only [List.length_cons]; omega
    · split <;> simp only [List.length_cons] <;> omega
theorem way_keep {a b : Lines} {i k : Int} (h0 : 0 ≤ i) (h1 : i < a.length) (h2 : 0 ≤ k) (h3 : k < b.length) (e : gt a i = gt b k) : wayKinds (a.drop i.toNat) (b.drop k.toNat) = 1 :: wayKinds (a.drop (i + 1).toNat) (b.drop (k + 1).toNat) := by
  rw [drop_gt h0 h1, drop_gt h2 h3, wayKinds, if_pos e]
theorem way_drop {a b : Lines} {i k : Int} (h0 : 0 ≤ i) (h1 : i < a.length) (h2 : 0 ≤ k) (h3 : k ≤ b.length) (hn : ¬ (k < b.length ∧ gt a i = gt b k)) (e : lcs (a.drop (i + 1).toNat) (b.drop k.toNat) = lcs (a.drop i.toNat) (b.drop k.toNat)) :
    wayKinds (a.drop i.toNat) (b.drop k.toNat) = 2 :: wayKinds (a.drop (i + 1).toNat) (b.drop k.toNat) := by
  by_cases z : k < b.length
  · rw [drop_gt h0 h1, drop_gt h2 z] at e ⊢
    rw [wayKinds, if_neg fun c => hn ⟨z, c⟩, if_pos e]
  · rw [drop_gt h0 h1, show b.drop k.toNat = [] from List.drop_of_length_le (by omega), wayKinds]
theorem way_take {a b : Lines} {i k : Int} (h0 : 0 ≤ i) (h1 : i ≤ a.length) (h2 : 0 ≤ k) (h3 : k < b.length) (hn : ¬ (i < a.length ∧ gt a i = gt b k)) (e : ¬ (i < a.length ∧ lcs (a.drop (i + 1).toNat) (b.drop k.toNat) = lcs (a.drop i.toNat) (b.drop k.toNat))) :
    wayKinds (a.drop i.toNat) (b.drop k.toNat) = 3 :: wayKinds (a.drop i.toNat) (b.drop (k + 1).toNat) := by
  by_cases z : i < a.length
  · have e := fun c => e ⟨z, c⟩
    rw [drop_gt h0 z, drop_gt h2 h3] at e ⊢
    rw [wayKinds, if_neg fun c => hn ⟨z, c⟩, if_neg e]
  · rw [drop_gt h2 h3, show a.drop i.toNat = [] from List.drop_of_length_le (by omega), wayKinds]
/-- Where the second list has ended, what is in common does not change. -/
theorem lcs_end {a b : Lines} {i k : Int} (hk : (b.length : Int) ≤ k) : lcs (a.drop (i + 1).toNat) (b.drop k.toNat) = lcs (a.drop i.toNat) (b.drop k.toNat) := by
  rw [show b.drop k.toNat = [] from List.drop_of_length_le (by omega), lcs_nil, lcs_nil]
theorem add_more {o : List Step} {k : Int} (h : 0 < (o.length : Int) ∧ (gt o ((o.length : Int) - 1)).1 = k) : addStep o k = o.set ((o.length : Int) - 1).toNat ((gt o ((o.length : Int) - 1)).1, (gt o ((o.length : Int) - 1)).2 + 1) := by
  unfold addStep; rw [if_pos ⟨fun e => by rw [e] at h; simp at h, h.2⟩]
theorem add_new {o : List Step} {k : Int} (h : ¬ (0 < (o.length : Int) ∧ (gt o ((o.length : Int) - 1)).1 = k)) : addStep o k = o ++ [(k, 1)] := by
  unfold addStep; rw [if_neg]
  rintro ⟨a, b⟩
  exact h ⟨by have := List.length_pos_iff.2 a; omega, b⟩
def cntOk (o : List Step) (n : Int) : Prop := o.length ≤ n ∧ ∀ j : Int, 0 ≤ j → j < o.length → 0 ≤ (gt o j).2 ∧ (gt o j).2 ≤ n
theorem cnt_add {o : List Step} {n k : Int} (h : cntOk o n) (hn : 0 ≤ n) : cntOk (addStep o k) (n + 1) := by
  obtain ⟨h1, h2⟩ := h
  by_cases c : 0 < (o.length : Int) ∧ (gt o ((o.length : Int) - 1)).1 = k
  · rw [add_more c]
    refine ⟨by simp; omega, fun j a b => ?_⟩
    simp only [List.length_set] at b
    have g := h2 ((o.length : Int) - 1) (by omega) (by omega)
    by_cases z : j = (o.length : Int) - 1
    · subst z; rw [gt_set_eq a (by omega)]; simp only; omega
    · rw [gt_set_ne (by omega) a (fun w => z w.symm)]; have := h2 j a b; omega
  · rw [add_new c]
    refine ⟨by simp; omega, fun j a b => ?_⟩
    simp only [List.length_append, List.length_cons, List.length_nil] at b
    by_cases z : j < o.length
    · rw [gt_append_l a z]; have := h2 j a z; omega
    · have : j = o.length := by omega
      subst this; rw [gt_append_last]; simp only; omega
theorem add_last (o : List Step) (k : Int) : 0 < ((addStep o k).length : Int) ∧ (gt (addStep o k) (((addStep o k).length : Int) - 1)).1 = k := by
  by_cases c : 0 < (o.length : Int) ∧ (gt o ((o.length : Int) - 1)).1 = k
  · rw [add_more c, List.length_set, gt_set_eq (by omega) (by omega)]
    exact c
  · rw [add_new c]
    refine ⟨by simp <;> omega, ?_⟩
    rw [show (((o ++ [(k, (1 : Int))]).length : Int) - 1) = (o.length : Int) by simp, gt_append_last]
theorem steps_succ {l : List Int} {x : Int} (h0 : 0 ≤ x) (h1 : x < l.length) : stepsOf (l.take (x + 1).toNat) = addStep (stepsOf (l.take x.toNat)) (gt l x) := by
  rw [take_gt h0 h1]; simp [stepsOf]
theorem stepsOf_len (l : List Int) : (stepsOf l).length ≤ l.length := by
  have key : ∀ (l : List Int) (o : List Step), (l.foldl addStep o).length ≤ o.length + l.length := by
    intro l
    induction l with
    | nil => intro o; simp
    | cons k l ih =>
      intro o
      have g := ih (addStep o k)
      have : (addStep o k).length ≤ o.length + 1 := by
        unfold addStep; split <;> simp
      simp only [List.foldl_cons, List.length_cons]; omega
  have := key l []
  simpa [stepsOf] using this
theorem diffSteps_len (a b : Lines) : (diffSteps a b).1.length ≤ 160 := by
  unfold diffSteps
  split
  · simp
  · rename_i h
    have q : linesFault [a, b] = 0 := Classical.byContradiction h
    have la := linesFault_len q (a := a) (by simp)
    have lb := linesFault_len q (a := b) (by simp)
    have g := wayKinds_len _ a b (Nat.le_refl _)
    have := stepsOf_len (wayKinds a b)
    simp only; omega
/-- The costs tell what is in common. -/
theorem cost_lcs {a b : Lines} {i k : Int} (h0 : 0 ≤ i) (h1 : i < a.length) : (wayCost a b (i + 1) k + 1 = wayCost a b i k) ↔ lcs (a.drop (i + 1).toNat) (b.drop k.toNat) = lcs (a.drop i.toNat) (b.drop k.toNat) := by
  unfold wayCost
  omega
end
end Go.Fu
