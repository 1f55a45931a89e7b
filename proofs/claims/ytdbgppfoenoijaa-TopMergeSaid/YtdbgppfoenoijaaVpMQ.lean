/-
  What was changed in one line: how lists of lines differ that differ in one line; merged with itself.
-/
import Derived.Test.YtdbgppfoenoijaaVpMP
import Derived.Test.YtdbgppfoenoijaaVpKP
set_option linter.unusedVariables false
set_option linter.unusedSimpArgs false
namespace Go.Fu
open Go.Vc
noncomputable section
theorem lines_front : ∀ (u cur : Bytes), ∃ P x, ∀ w, linesRec cur (u ++ w) = P ++ linesRec x w
  | [], cur => ⟨[], cur, fun w => rfl⟩
  | c :: u, cur => by
    by_cases h : c = 10
    · obtain ⟨P, x, e⟩ := lines_front u []
      exact ⟨cur :: P, x, fun w => by rw [List.cons_append, linesRec, if_pos h, e]; rfl⟩
    · obtain ⟨P, x, e⟩ := lines_front u (cur ++ [c])
      exact ⟨P, x, fun w => by rw [List.cons_append, linesRec, if_neg h, e]⟩
theorem lines_back : ∀ (v : Bytes), ∃ h Q, ∀ x, linesRec x v = (x ++ h) :: Q
  | [] => ⟨[], [], fun x => by simp [linesRec]⟩
  | c :: v => by
    obtain ⟨h, Q, e⟩ := lines_back v
    by_cases hc : c = 10
    · exact ⟨[], linesRec [] v, fun x => by rw [linesRec, if_pos hc]; simp⟩
    · exact ⟨c :: h, Q, fun x => by rw [linesRec, if_neg hc, e]; simp⟩
theorem lines_put : ∀ (p v x : Bytes), (∀ c ∈ p, c ≠ 10) → linesRec x (p ++ v) = linesRec (x ++ p) v
  | [], v, x, _ => by simp
  | c :: p, v, x, h => by
    rw [List.cons_append, linesRec, if_neg (h c (List.mem_cons_self ..)), lines_put p v _ fun d hd => h d (List.mem_cons_of_mem _ hd)]
    simp
theorem cut_put (u p v : Bytes) (hp : ∀ c ∈ p, c ≠ 10) : ∃ P Q x h, cutLines (u ++ v) = P ++ (x ++ h) :: Q ∧ cutLines (u ++ p ++ v) = P ++ (x ++ p ++ h) :: Q := by
  obtain ⟨P, x, e⟩ := lines_front u []
  obtain ⟨h, Q, f⟩ := lines_back v
  refine ⟨P, Q, x, h, ?_, ?_⟩
  · rw [cutLines_rec, e, f]
  · rw [cutLines_rec, List.append_assoc, e, lines_put _ _ _ hp, f]
theorem lcs_one {P Q : Lines} {a b : Bytes} (h : a ≠ b) : lcs (P ++ a :: Q) (P ++ b :: Q) = P.length + Q.length := by
  obtain ⟨⟨c, h1, h2, h3⟩, h4⟩ := lcs_spec (P ++ a :: Q) (P ++ b :: Q)
  have lo := h4 (P ++ Q) (List.Sublist.append (List.Sublist.refl _) (List.sublist_cons_self _ _)) (List.Sublist.append (List.Sublist.refl _) (List.sublist_cons_self _ _))
  have up := h1.length_le
  rw [List.length_append] at lo
  rw [List.length_append, List.length_cons] at up
  by_cases e : c.length = P.length + (Q.length + 1)
  · have e1 := h1.eq_of_length (by rw [e]; simp)
    have e2 := h2.eq_of_length (by rw [e]; simp)
    rw [e1] at e2
    have := List.append_cancel_left e2
    exact absurd (List.cons.inj this).1 h
  · omega
theorem lcs_self (a : Lines) : lcs a a = a.length := by
  obtain ⟨⟨c, h1, h2, h3⟩, h4⟩ := lcs_spec a a
  have := h4 a (List.Sublist.refl _) (List.Sublist.refl _)
  have := h1.length_le
  omega
theorem mk1_succ (base : Lines) (t : Tch) (m : Nat) : mk1 base t 0 (m + 1) = mk1 base t 0 m ++ cell base t m := by
  unfold mk1
  rw [show m + 1 - 0 = m + 1 by omega, show m - 0 = m by omega, seg, List.append_assoc, show 0 + m = m by omega]
theorem drop_cons {l : Lines} {i : Nat} {x : Bytes} {r : Lines} (h : l.drop i = x :: r) : l.getD i [] = x ∧ l.drop (i + 1) = r ∧ l.take (i + 1) = l.take i ++ [x] ∧ i < l.length := by
  have hl : i < l.length := by
    refine Classical.byContradiction fun q => ?_
    rw [List.drop_of_length_le (by omega)] at h; cases h
  rw [List.drop_eq_getElem_cons hl] at h
  obtain ⟨h1, h2⟩ := List.cons.inj h
  refine ⟨by simp [List.getD, List.getElem?_eq_getElem hl, h1], h2, ?_, hl⟩
  rw [List.take_add_one, List.getElem?_eq_getElem hl, h1]; rfl
/-- What the way's changes make of base is the other list. -/
theorem made_run (base other : Lines) : ∀ (n : Nat) (a b : Lines) (u : TS), a.length + b.length ≤ n → base.drop u.at_ = a → other.drop u.to = b → u.at_ ≤ base.length → u.to ≤ other.length → mk1 base u.t 0 u.at_ = other.take u.to → (∀ i, u.at_ < i → u.t.put i = []) → (∀ i, u.at_ ≤ i → u.t.gone i = false) →
    mk1 base ((wayKinds a b).foldl (tUnit other) u).t 0 base.length = other := by
  intro n
  have done : ∀ (u : TS), base.drop u.at_ = [] → other.drop u.to = [] → u.at_ ≤ base.length → u.to ≤ other.length → mk1 base u.t 0 u.at_ = other.take u.to → mk1 base u.t 0 base.length = other := by
    intro u h1 h2 h3 h4 h5
    have e1 := congrArg List.length h1
    have e2 := congrArg List.length h2
    simp only [List.length_drop, List.length_nil] at e1 e2
    rw [show base.length = u.at_ by omega, h5, List.take_of_length_le (by omega)]
  have s1 : ∀ (u : TS) (x : Bytes) (a b : Lines), base.drop u.at_ = x :: a → other.drop u.to = x :: b → mk1 base u.t 0 u.at_ = other.take u.to → (∀ i, u.at_ < i → u.t.put i = []) → (∀ i, u.at_ ≤ i → u.t.gone i = false) → mk1 base (tUnit other u 1).t 0 (tUnit other u 1).at_ = other.take (tUnit other u 1).to := by
    intro u x a b h1 h2 h3 h4 h5
    obtain ⟨a1, a2, a3, a4⟩ := drop_cons h1
    obtain ⟨b1, b2, b3, b4⟩ := drop_cons h2
    show mk1 base u.t 0 (u.at_ + 1) = other.take (u.to + 1)
    rw [mk1_succ, h3, cell, h5 _ (Nat.le_refl _), if_neg (by simp), a1, h4 _ (by omega), b3]; simp
  have s2 : ∀ (u : TS), mk1 base u.t 0 u.at_ = other.take u.to → (∀ i, u.at_ < i → u.t.put i = []) → mk1 base (tUnit other u 2).t 0 (tUnit other u 2).at_ = other.take (tUnit other u 2).to := by
    intro u h3 h4
    have e : tUnit other u 2 = ⟨u.at_ + 1, u.to, ⟨fun i => if i = u.at_ ∨ i = u.at_ + 1 then true else u.t.gap i, fun i => if i = u.at_ then true else u.t.gone i, u.t.put⟩⟩ := rfl
    rw [e]
    show mk1 base _ 0 (u.at_ + 1) = other.take u.to
    rw [mk1_succ, ← h3]
    have c := mk1_congr (base := base) (t := u.t) (t' := ⟨fun i => if i = u.at_ ∨ i = u.at_ + 1 then true else u.t.gap i, fun i => if i = u.at_ then true else u.t.gone i, u.t.put⟩) (lo := 0) (hi := u.at_) (Nat.zero_le _) (fun i _ h => by simp only; rw [if_neg (by omega)]) (fun i _ _ => rfl)
    rw [c]
    simp [cell, h4 (u.at_ + 1) (by omega)]
  have s3 : ∀ (u : TS) (y : Bytes) (b : Lines), other.drop u.to = y :: b → mk1 base u.t 0 u.at_ = other.take u.to → mk1 base (tUnit other u 3).t 0 (tUnit other u 3).at_ = other.take (tUnit other u 3).to := by
    intro u y b h2 h3
    obtain ⟨b1, b2, b3, b4⟩ := drop_cons h2
    have e : tUnit other u 3 = ⟨u.at_, u.to + 1, ⟨fun i => if i = u.at_ then true else u.t.gap i, u.t.gone, fun i => if i = u.at_ then u.t.put i ++ [other.getD u.to []] else u.t.put i⟩⟩ := rfl
    rw [e]
    show mk1 base _ 0 u.at_ = other.take (u.to + 1)
    rw [b3, ← h3]
    exact mk1_more (o := [y]) (Nat.zero_le _) (fun i _ _ => rfl) (fun i _ h => by simp only; rw [if_neg (by omega)]) (by simp only; rw [if_pos trivial, b1])
  have p1 : ∀ (u : TS) (k : Int), 1 ≤ k → k ≤ 3 → (∀ i, u.at_ < i → u.t.put i = []) → (∀ i, u.at_ ≤ i → u.t.gone i = false) → (∀ i, (tUnit other u k).at_ < i → (tUnit other u k).t.put i = []) ∧ (∀ i, (tUnit other u k).at_ ≤ i → (tUnit other u k).t.gone i = false) := by
    intro u k k1 k2 h4 h5
    rcases (by omega : k = 1 ∨ k = 2 ∨ k = 3) with rfl | rfl | rfl
    · exact ⟨fun i h => h4 i (by have : u.at_ + 1 < i := h; omega), fun i h => h5 i (by have : u.at_ + 1 ≤ i := h; omega)⟩
    · refine ⟨fun i h => h4 i (by have : u.at_ + 1 < i := h; omega), fun i h => ?_⟩
      have h : u.at_ + 1 ≤ i := h
      show (if i = u.at_ then true else u.t.gone i) = false
      rw [if_neg (by omega)]; exact h5 i (by omega)
    · refine ⟨fun i h => ?_, fun i h => h5 i h⟩
      have h : u.at_ < i := h
      show (if i = u.at_ then u.t.put i ++ [other.getD u.to []] else u.t.put i) = []
      rw [if_neg (by omega)]; exact h4 i h
  induction n with
  | zero =>
    intro a b u h h1 h2 h3 h4 h5 h6 h7
    cases a with
    | cons x a => simp at h
    | nil => cases b with
      | cons y b => simp at h
      | nil => simp only [wayKinds, List.foldl_nil]; exact done u h1 h2 h3 h4 h5
  | succ n ih =>
    intro a b u h h1 h2 h3 h4 h5 h6 h7
    cases a with
    | nil => cases b with
      | nil => simp only [wayKinds, List.foldl_nil]; exact done u h1 h2 h3 h4 h5
      | cons y b =>
        rw [wayKinds, List.foldl_cons]
        obtain ⟨q1, q2⟩ := p1 u 3 (by omega) (by omega) h6 h7
        exact ih [] b (tUnit other u 3) (by simp at h ⊢; omega) h1 (drop_cons h2).2.1 h3 (drop_cons h2).2.2.2 (s3 u y b h2 h5) q1 q2
    | cons x a => cases b with
      | nil =>
        rw [wayKinds, List.foldl_cons]
        obtain ⟨q1, q2⟩ := p1 u 2 (by omega) (by omega) h6 h7
        exact ih a [] (tUnit other u 2) (by simp at h ⊢; omega) (drop_cons h1).2.1 h2 (drop_cons h1).2.2.2 h4 (s2 u h5 h6) q1 q2
      | cons y b =>
        rw [wayKinds]
        split
        · rename_i e
          subst e
          rw [List.foldl_cons]
          obtain ⟨q1, q2⟩ := p1 u 1 (by omega) (by omega) h6 h7
          exact ih a b (tUnit other u 1) (by simp at h ⊢; omega) (drop_cons h1).2.1 (drop_cons h2).2.1 (drop_cons h1).2.2.2 (drop_cons h2).2.2.2 (s1 u x a b h1 h2 h5 h6 h7) q1 q2
        · split
          · rw [List.foldl_cons]
            obtain ⟨q1, q2⟩ := p1 u 2 (by omega) (by omega) h6 h7
            exact ih a (y :: b) (tUnit other u 2) (by simp at h ⊢; omega) (drop_cons h1).2.1 h2 (drop_cons h1).2.2.2 h4 (s2 u h5 h6) q1 q2
          · rw [List.foldl_cons]
            obtain ⟨q1, q2⟩ := p1 u 3 (by omega) (by omega) h6 h7
            exact ih (x :: a) b (tUnit other u 3) (by simp at h ⊢; omega) h1 (drop_cons h2).2.1 h3 (drop_cons h2).2.2.2 (s3 u y b h2 h5) q1 q2
theorem touch_made (base other : Lines) : mk1 base (touchOf base other) 0 base.length = other := by
  refine made_run base other _ base other tStart (Nat.le_refl _) rfl rfl (Nat.zero_le _) (Nat.zero_le _) ?_ (fun i _ => rfl) (fun i _ => rfl)
  simp [mk1, seg, tStart]
theorem touch_self (a : Lines) : ∀ i, (touchOf a a).gap i = false ∧ (touchOf a a).gone i = false := by
  have : ∀ (l : Lines) (u : TS), ((wayKinds l l).foldl (tUnit a) u).t = u.t := by
    intro l
    induction l with
    | nil => intro u; simp [wayKinds]
    | cons x l ih => intro u; rw [wayKinds, if_pos rfl, List.foldl_cons, ih]; rfl
  intro i
  unfold touchOf
  rw [this]
  exact ⟨rfl, rfl⟩
theorem touch_free (base other : Lines) (i : Nat) (h : (touchOf base other).gap i = false) : (touchOf base other).put i = [] ∧ (touchOf base other).gone i = false := by
  have s := (hunks_say base other).2
  have hn : ∀ h ∈ hunksOf base other, ¬ (h.1 ≤ i ∧ i ≤ h.2.1) := fun g hg q => by
    have := (s.gap i).2 ⟨g, hg, q⟩
    rw [h] at this; cases this
  refine ⟨s.none i hn, ?_⟩
  cases hg : (touchOf base other).gone i with
  | false => rfl
  | true =>
    obtain ⟨g, g1, g2, g3⟩ := (s.gone i).1 hg
    exact absurd ⟨g2, by omega⟩ (hn g g1)
theorem run_end {n : Nat} {g : Nat → Bool} : ∀ (K h : Nat), h ≤ n → n < h + K → runTo n g K h = n ∨ g (runTo n g K h) = false
  | 0, h, h1, h2 => by omega
  | K + 1, h, h1, h2 => by
    rw [runTo]
    split
    · exact run_end K (h + 1) (by omega) (by omega)
    · rename_i c
      by_cases e : h = n
      · exact .inl e
      · refine .inr ?_
        cases hg : g h with
        | false => rfl
        | true => exact absurd ⟨by omega, hg⟩ c
theorem mk1_split {base : Lines} {t : Tch} {i h n : Nat} (hi : i ≤ h) (hn : h < n) (hg : t.gone h = false) : mk1 base t i n = mk1 base t i h ++ [base.getD h []] ++ mk1 base t (h + 1) n := by
  unfold mk1
  rw [show n - i = (h - i) + (1 + (n - (h + 1))) by omega, seg_add, seg_add, show i + (h - i) = h by omega]
  simp [seg, cell, hg]
theorem rule_alone {base : Lines} {tA tB : Tch} (hA : ∀ i, tA.gap i = false → tA.put i = [] ∧ tA.gone i = false) (hB : ∀ i, tB.gap i = false ∧ tB.gone i = false) : ∀ (K i : Nat), base.length < i + K → ruleF base base.length tA tB K i = ((if i ≤ base.length then mk1 base tA i base.length else []), 0)
  | 0, i, h => by rw [rule_end (by omega), if_neg (by omega)]
  | K + 1, i, h => by
    by_cases c : base.length < i
    · rw [rule_end c, if_neg (by omega)]
    rw [if_pos (by omega)]
    by_cases hg : tA.gap i = false
    · rw [rule_free (by omega) ⟨hg, (hB i).1⟩, rule_alone hA hB K (i + 1) (by omega)]
      obtain ⟨h1, h2⟩ := hA i hg
      by_cases e : i = base.length
      · subst e
        simp [mk1, seg, h1]
        intro q; omega
      · rw [if_pos (by omega), if_pos (by omega), mk1_split (h := i) (Nat.le_refl _) (by omega) h2]
        simp [mk1, seg, h1]
    · have hr := run_end (n := base.length) (g := fun j => tA.gone j || tB.gone j) (base.length + 1) i (by omega) (by omega)
      obtain ⟨r1, r2⟩ := run_le (n := base.length) (g := fun j => tA.gone j || tB.gone j) (base.length + 1) i (by omega)
      rw [rule_part (hi := runTo base.length (fun j => tA.gone j || tB.gone j) (base.length + 1) i) (by omega) (fun q => hg q.1) rfl]
      generalize runTo base.length (fun j => tA.gone j || tB.gone j) (base.length + 1) i = h at *
      have hu : ¬ uses tB i h := fun ⟨k, _, _, q⟩ => by rw [(hB k).1] at q; cases q
      have e1 : partR base tA tB i h = mk1 base tA i h := by unfold partR; rw [if_pos (.inl hu)]
      have e2 : partK base tA tB i h = 0 := by unfold partK; rw [if_pos (.inl hu)]
      rw [e1, e2, rule_alone hA hB K (h + 1) (by omega)]
      by_cases e : h = base.length
      · subst e
        simp
        intro q; omega
      · have hgo : tA.gone h = false := by
          have := hr.resolve_left e
          simp only [Bool.or_eq_false_iff] at this
          exact this.1
        rw [if_pos (by omega), if_pos (by omega), mk1_split (n := base.length) r1 (by omega) hgo]
        simp
/-- Merged with the text itself: the other one. -/
theorem merged_self {a b : Lines} (h : linesFault [a, b, a] = 0) : merged a b a = (b, 0, 0) := by
  rw [merged_rule h, rule_alone (fun i => touch_free a b i) (fun i => touch_self a i) _ 0 (by omega), if_pos (Nat.zero_le _), touch_made]
  rfl
/-- A text of few signs. -/
def textSigns : Bytes := [97, 98, 32, 10, 97, 98, 99, 100, 32, 98, 10, 97]
def textByte (x : Int) : UInt8 := gt textSigns (x % 12)
def textOf (l : List Int) (n : Int) : Bytes := (l.take n.toNat).map textByte
def keep_TextOf_ct : Ct := ⟨tys2 (.sl tI) tI, [.val .str], fun x => fewPre x, fun x => textOf x.1 x.2⟩
theorem text_len (l : List Int) (n : Int) : (textOf l n).length ≤ n.toNat := by
  unfold textOf; rw [List.length_map, List.length_take]; omega
theorem text_succ {l : List Int} {i : Int} (h0 : 0 ≤ i) (h1 : i < l.length) : textOf l (i + 1) = textOf l i ++ [textByte (gt l i)] := by
  unfold textOf; rw [take_gt h0 h1]; simp
theorem text_one (x : Int) : List.drop 0 (List.take 1 (List.drop (pickOf x 12).toNat (List.take ((12 : Nat) : Int).toNat textSigns))) = [textByte x] := by
  unfold textByte pickOf
  rcases (show x % 12 = 0 ∨ x % 12 = 1 ∨ x % 12 = 2 ∨ x % 12 = 3 ∨ x % 12 = 4 ∨ x % 12 = 5 ∨ x % 12 = 6 ∨ x % 12 = 7 ∨ x % 12 = 8 ∨ x % 12 = 9 ∨ x % 12 = 10 ∨ x % 12 = 11 by omega) with h | h | h | h | h | h | h | h | h | h | h | h <;> rw [h] <;> rfl
theorem few_no10 (l : List Int) (n : Int) : ∀ c ∈ fewOf l n, c ≠ 10 := by
  intro c hc
  unfold fewOf at hc
  obtain ⟨x, _, rfl⟩ := List.mem_map.1 hc
  unfold fewByte
  split <;> decide
def editedAt (s : Bytes) (k : Int) (p : Bytes) : Bytes := s.take k.toNat ++ p ++ s.drop k.toNat
theorem apply_one {s p : Bytes} {k : Int} (hs : s.length ≤ 80) (h0 : 0 ≤ k) (h1 : k ≤ s.length) (hp : p.length ≤ 5) : editApply s [(k, 0, p)] = (editedAt s k p, 0) := by
  have hf : editFault s.length (k, 0, p) = 0 := editMay_iff.2 ⟨by omega, by omega, h0, h1, Int.le_refl _, by simp only; omega, by simp only; omega⟩
  have hc : editsCode s [(k, 0, p)] = 0 := by
    unfold editsCode
    rw [if_neg (by simp; omega)]
    simp only [editCode]
    rw [if_neg (by simpa using hf)]
  unfold editApply editRun
  rw [if_pos hc]
  simp only [editLast, editMade, editedAt]
  simp
theorem top_merge {s p : Bytes} {k : Int} (hs : s.length ≤ 80) (h0 : 0 ≤ k) (h1 : k ≤ s.length) (hp : p.length ≤ 5) (hn : ∀ c ∈ p, c ≠ 10) :
    (cutLines s).length = (cutLines (editedAt s k p)).length ∧ ((cutLines s).length ≤ 80 → diffCost (cutLines s) (cutLines (editedAt s k p)) = ((if s = editedAt s k p then 0 else 2), 0) ∧ merged (cutLines s) (cutLines (editedAt s k p)) (cutLines s) = (cutLines (editedAt s k p), 0, 0)) := by
  obtain ⟨P, Q, x, h, e1, e2⟩ := cut_put (s.take k.toNat) p (s.drop k.toNat) hn
  rw [List.take_append_drop] at e1
  have e2 : cutLines (editedAt s k p) = P ++ (x ++ p ++ h) :: Q := e2
  have l1 := (cutLines_len s).2
  have l2 := (cutLines_len (editedAt s k p)).2
  have lt : (editedAt s k p).length ≤ 85 := by unfold editedAt; simp; omega
  have hst : s = editedAt s k p ↔ p = [] := by
    constructor
    · intro e
      have := congrArg List.length e
      unfold editedAt at this
      simp at this
      exact List.length_eq_zero_iff.1 (by omega)
    · intro e
      unfold editedAt
      rw [e]; simp
  have hll : (cutLines s).length = (cutLines (editedAt s k p)).length := by rw [e1, e2]; simp
  refine ⟨hll, fun hl => ?_⟩
  have nof : ∀ ls : List Lines, (∀ l ∈ ls, l = cutLines s ∨ l = cutLines (editedAt s k p)) → linesFault ls = 0 := fun ls h => (linesFault_iff ls).1.resolve_right fun q => by
    obtain ⟨l, hl', q⟩ := (linesFault_iff ls).2.1 q
    rcases h l hl' with rfl | rfl
    · rcases q with q | ⟨z, z1, z2⟩
      · omega
      · have := l1 z z1; omega
    · rcases q with q | ⟨z, z1, z2⟩
      · omega
      · have := l2 z z1; omega
  refine ⟨?_, merged_self (nof _ (by simp))⟩
  unfold diffCost
  rw [if_neg (by simpa using nof _ (by simp))]
  by_cases c : p = []
  · rw [if_pos (hst.2 c), ← hst.2 c, lcs_self]
    congr 1
    omega
  · rw [if_neg fun q => c (hst.1 q), ← hll, e1, e2, lcs_one]
    · simp only [List.length_append, List.length_cons]
      congr 1
      omega
    · intro e
      have := congrArg List.length e
      simp only [List.length_append] at this
      exact c (List.length_eq_zero_iff.1 (by omega))
end
end Go.Fu
