/-
  Words in lines: costs of ways to part them, the least cost.
-/
import Derived.Test.YtcgggoaefceokaaVpE
set_option linter.unusedVariables false
set_option linter.unusedSimpArgs false
namespace Go.Fu
open Go.Vc
noncomputable section
/-- How wide the words from i on ahead of j are in a line. -/
def lw (w : List Int) (i j : Int) : Int := lineWide ((w.take j.toNat).drop i.toNat)
theorem lineWide_snoc (l : List Int) (n : Int) : lineWide (l ++ [n]) = lineWide l + n + 1 := by
  simp [lineWide]; omega
theorem lineWide_nil : lineWide [] = -1 := rfl
theorem lineWide_cons (n : Int) (l : List Int) : lineWide (n :: l) = lineWide l + n + 1 := by
  simp [lineWide]; omega
theorem part_snoc {w : List Int} {i j : Int} (h0 : 0 ≤ i) (h1 : i ≤ j) (h2 : j < w.length) : (w.take (j + 1).toNat).drop i.toNat = (w.take j.toNat).drop i.toNat ++ [gt w j] := by
  rw [take_gt (by omega) h2, List.drop_append_of_le_length (by simp; omega)]
theorem lw_succ {w : List Int} {i j : Int} (h0 : 0 ≤ i) (h1 : i ≤ j) (h2 : j < w.length) : lw w i (j + 1) = lw w i j + gt w j + 1 := by
  simp only [lw]
  rw [part_snoc h0 h1 h2, lineWide_snoc]
theorem lw_self {w : List Int} {i : Int} (h0 : 0 ≤ i) : lw w i i = -1 := by
  simp only [lw]
  rw [List.drop_of_length_le (by simp; omega)]; rfl
theorem part_cons {w : List Int} {i j : Int} (h0 : 0 ≤ i) (h1 : i < j) (h2 : j ≤ w.length) : (w.take j.toNat).drop i.toNat = gt w i :: (w.take j.toNat).drop (i + 1).toNat := by
  rw [drop_gt h0 (by simp; omega), gt_take h0 (by omega)]
theorem lw_cons {w : List Int} {i j : Int} (h0 : 0 ≤ i) (h1 : i < j) (h2 : j ≤ w.length) : lw w i j = lw w (i + 1) j + gt w i + 1 := by
  simp only [lw]
  rw [part_cons h0 h1 h2, lineWide_cons]

theorem greedyOn_len (wide : Int) : ∀ (l : List Int) (i f : Int), (greedyOn wide i f l).length ≤ l.length
  | [], _, _ => by simp [greedyOn]
  | n :: l, i, f => by
    simp only [greedyOn]
    split
    · have := greedyOn_len wide l (i + 1) (wide - n); simp; omega
    · have := greedyOn_len wide l (i + 1) (f - (n + 1)); simp; omega
theorem greedyAt_len (wide i : Int) : ∀ (l : List Int), (greedyAt wide i l).length ≤ l.length
  | [] => by simp [greedyAt]
  | n :: l => by
    have := greedyOn_len wide l (i + 1) (wide - n)
    simp only [greedyAt, List.length_cons]; omega
/-- What a line from i ahead of j costs. -/
def ec (w : List Int) (wide i j : Int) : Int := if j < w.length then (wide - lw w i j) * (wide - lw w i j) else 0
def lineOk (w : List Int) (wide i j : Int) : Prop := 0 ≤ i ∧ i < j ∧ j ≤ w.length ∧ lw w i j ≤ wide
theorem sq_nn (a : Int) : 0 ≤ a * a := by
  rcases Int.le_total 0 a with h | h
  · exact Int.mul_nonneg h h
  · have := Int.mul_nonneg (show 0 ≤ -a by omega) (show 0 ≤ -a by omega)
    rwa [Int.neg_mul_neg] at this
theorem ec_nn (w : List Int) (wide i j : Int) : 0 ≤ ec w wide i j := by
  unfold ec; split
  · exact sq_nn _
  · omega
/-- The cost of lines that begin at these places, of which the last one ends at e. -/
def costEnd (w : List Int) (wide : Int) : List Int → Int → Option Int
  | [], _ => some 0
  | [a], e => open Classical in if lineOk w wide a e then some (ec w wide a e) else none
  | a :: b :: r, e => open Classical in if lineOk w wide a b then (costEnd w wide (b :: r) e).map (ec w wide a b + ·) else none
def costGo (w : List Int) (wide : Int) (l : List Int) : Option Int := costEnd w wide l w.length
def wrapCost (w : List Int) (wide : Int) (l : List Int) : Int × Int :=
  if wrapFault w wide ≠ 0 then (0, wrapFault w wide)
  else if l = [] then (if w = [] then (0, 0) else (0, 4))
  else if gt l 0 = 0 then (match costGo w wide l with | some c => (c, 0) | none => (0, 4)) else (0, 4)
abbrev fitI (l : List Int) : Prop := fitL l
def wrap_Cost_ct : Ct := ⟨tys3 (.sl tI) tI (.sl tI), [.val tI, .val tI], fun x => fitI x.2.2, fun x => wrapCost x.1 x.2.1 x.2.2⟩
def ref_WrapCost_ct : Ct := wrap_Cost_ct

theorem costEnd_snoc {w : List Int} {wide : Int} : ∀ {l : List Int} {i c k : Int}, costEnd w wide l i = some c → (l = [] → i = i) → lineOk w wide i k → costEnd w wide (l ++ [i]) k = some (c + ec w wide i k)
  | [], i, c, k, h, _, h1 => by
    simp only [costEnd, Option.some.injEq] at h
    subst h
    simp [costEnd, if_pos h1]
  | [a], i, c, k, h, _, h1 => by
    simp only [costEnd] at h
    split at h
    · rename_i h2
      cases h
      simp [costEnd, if_pos h1, if_pos h2]
    · cases h
  | a :: b :: r, i, c, k, h, _, h1 => by
    simp only [costEnd] at h
    split at h
    · rename_i h2
      cases hh : costEnd w wide (b :: r) i with
      | none => rw [hh] at h; cases h
      | some d =>
        rw [hh] at h
        simp at h
        have := costEnd_snoc hh (fun _ => rfl) h1
        have e : a :: b :: r ++ [i] = a :: b :: (r ++ [i]) := rfl
        rw [e]
        simp only [costEnd, if_pos h2]
        rw [show b :: (r ++ [i]) = b :: r ++ [i] from rfl, this]
        simp
        omega
    · cases h
/-- What can be reached from the first word on, and what leads to the end. -/
inductive Rch (w : List Int) (wide : Int) : Int → Int → Prop
  | nil : Rch w wide 0 0
  | snoc {i c k : Int} (h : Rch w wide i c) (hk : lineOk w wide i k) : Rch w wide k (c + ec w wide i k)
inductive Wb (w : List Int) (wide : Int) : Int → Int → Prop
  | nil : Wb w wide w.length 0
  | cons {i c k : Int} (hk : lineOk w wide i k) (h : Wb w wide k c) : Wb w wide i (ec w wide i k + c)
theorem rch_wb {w : List Int} {wide : Int} : ∀ {i a b : Int}, Rch w wide i a → Wb w wide i b → Wb w wide 0 (a + b) := by
  intro i a b h
  induction h generalizing b with
  | nil => intro h; simpa using h
  | snoc h hk ih => intro g; have := ih (.cons hk g); rwa [← Int.add_assoc] at this
theorem wb_rch {w : List Int} {wide : Int} : ∀ {i b : Int}, Wb w wide i b → ∀ {a}, Rch w wide i a → Rch w wide w.length (a + b) := by
  intro i b h
  induction h with
  | nil => intro a h; simpa using h
  | cons hk h ih => intro a g; have := ih (.snoc g hk); rwa [Int.add_assoc] at this
theorem cost_rch {w : List Int} {wide : Int} : ∀ {l : List Int} {e c : Int}, costEnd w wide l e = some c → l ≠ [] → ∀ {a}, Rch w wide (gt l 0) a → Rch w wide e (a + c)
  | [], e, c, h, hn, _, _ => absurd rfl hn
  | [x], e, c, h, _, a, g => by
    simp only [costEnd] at h
    split at h
    · rename_i hk; cases h; exact .snoc g hk
    · cases h
  | x :: y :: r, e, c, h, _, a, g => by
    simp only [costEnd] at h
    split at h
    · rename_i hk
      cases hh : costEnd w wide (y :: r) e with
      | none => rw [hh] at h; cases h
      | some d =>
        rw [hh] at h
        simp at h
        subst h
        have := cost_rch hh (by simp) (.snoc g hk)
        rwa [Int.add_assoc] at this
    · cases h
theorem rch_nn {w : List Int} {wide : Int} {i c : Int} (h : Rch w wide i c) : 0 ≤ c ∧ 0 ≤ i ∧ i ≤ w.length := by
  induction h with
  | nil => omega
  | snoc h hk ih =>
    rename_i i c k
    have := ec_nn w wide i k
    obtain ⟨h1, h2, h3, h4⟩ := hk
    exact ⟨by omega, by omega, by omega⟩
theorem wb_nn {w : List Int} {wide : Int} {i c : Int} (h : Wb w wide i c) : 0 ≤ c := by
  induction h with
  | nil => omega
  | cons hk h ih => rename_i i c k; have := ec_nn w wide i k; omega
def leastOk (w : List Int) (wide c : Int) : Prop := Rch w wide w.length c ∧ ∀ d, Rch w wide w.length d → c ≤ d
def wrapLeast (w : List Int) (wide : Int) : Int := Classical.epsilon (leastOk w wide)
theorem wrapLeast_eq {w : List Int} {wide c : Int} (h : leastOk w wide c) : wrapLeast w wide = c := by
  have g := Classical.epsilon_spec (p := leastOk w wide) ⟨c, h⟩
  have := g.2 c h.1
  have := h.2 _ g.1
  simp only [wrapLeast]
  omega
def ref_WrapLeast_ct : Ct := ⟨tys2 (.sl tI) tI, [.val tI], fun x => wrapFault x.1 x.2 = 0, fun x => wrapLeast x.1 x.2⟩
end
end Go.Fu
