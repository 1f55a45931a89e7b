/-
  What lies outside the widened changed spans keeps its lines.
-/
import Derived.Test.YtakkifkpihdcnaaDoorVpRS
import Derived.Test.YtakkifkpihdcnaaDoorVpKT
import Derived.Test.YtakkifkpihdcnaaDoorVpLN
import Derived.Test.YtakkifkpihdcnaaDoorVpI
set_option linter.unusedVariables false
set_option linter.unusedSimpArgs false
namespace Go.Fu
open Go.Vc
noncomputable section
abbrev Chg : Type := Int × Int × List Int
abbrev tChg : Ty := .st (.cons tI (.cons tI (.cons (.sl tI) .nil)))
def editOf (c : Chg) (size : Int) : Edit := (pickOf c.1 (size + 1), pickOf c.2.1 (min (size - pickOf c.1 (size + 1)) 12 + 1), textOf c.2.2 8)
abbrev chgPre (x : Chg × Int) : Prop := inI64 x.1.1 ∧ inI64 x.1.2.1 ∧ (∀ i ∈ x.1.2.2, inI64 i) ∧ 0 ≤ x.2 ∧ x.2 ≤ 600
def keep_EditOf_ct : Ct := ⟨tys2 tChg tI, [.val tEdit], fun x => chgPre x, fun x => editOf x.1 x.2⟩
end
theorem lineLo_ex (s : Bytes) : ∀ lo : Nat, ∃ r : Int, 0 ≤ r ∧ r ≤ lo ∧ (∀ j, r ≤ j → j < (lo : Int) → gt s j ≠ 10) ∧ (0 < r → gt s (r - 1) = 10)
  | 0 => ⟨0, by omega, by omega, fun j h1 h2 => by omega, fun h => by omega⟩
  | lo + 1 => by
    by_cases c : gt s (lo : Int) = 10
    · exact ⟨((lo + 1 : Nat) : Int), by omega, by omega, fun j h1 h2 => by omega, fun _ => by rw [show ((lo + 1 : Nat) : Int) - 1 = lo by omega]; exact c⟩
    · obtain ⟨r, h0, h1, h2, h3⟩ := lineLo_ex s lo
      refine ⟨r, h0, by omega, fun j a b => ?_, h3⟩
      by_cases e : j = lo
      · rw [e]; exact c
      · exact h2 j a (by omega)
theorem hiOk_ex (s : Bytes) : ∀ (n : Nat) (hi : Int), 0 ≤ hi → hi + n = s.length → ∃ r, hiOk s hi r
  | 0, hi, h0, h => ⟨hi, by omega, by omega, fun j a b => by omega, fun q => by omega⟩
  | n + 1, hi, h0, h => by
    by_cases c : gt s hi = 10
    · exact ⟨hi + 1, by omega, by omega, fun j a b => by omega, fun _ => ⟨by omega, by rw [show hi + 1 - 1 = hi by omega]; exact c⟩⟩
    · obtain ⟨r, h1, h2, h3, h4⟩ := hiOk_ex s n (hi + 1) (by omega) (by omega)
      refine ⟨r, by omega, h2, fun j a b => ?_, fun q => ?_⟩
      · by_cases e : j = hi
        · rw [e]; exact c
        · exact h3 j (by omega) b
      · rcases q with q | q
        · have := h4 (.inl q); exact ⟨by omega, this.2⟩
        · exact q
theorem lines_ok {u : Bytes} (h : u.length ≤ 600) : polyLines u = ((cutLines u).map fun l => (polyOf l).1, 0) ∧ 0 < (((cutLines u).map fun l => (polyOf l).1).length : Int) ∧ fitL ((cutLines u).map fun l => (polyOf l).1) := by
  have hcl := cutLines_len u
  refine ⟨by unfold polyLines; rw [if_neg (by omega)], ?_, by show (List.map _ _).length ≤ _; rw [List.length_map]; omega⟩
  have h := cut_next u
  rw [List.length_map, h]
  split <;> simp <;> omega
theorem pick_in {a n : Int} (h : 0 < n) : 0 ≤ pickOf a n ∧ pickOf a n < n := ⟨Int.emod_nonneg a (by omega), Int.emod_lt_of_pos a h⟩
theorem edit_ok {c : Chg} {size : Int} (h0 : 0 ≤ size) : 0 ≤ (editOf c size).1 ∧ (editOf c size).1 ≤ size ∧ 0 ≤ (editOf c size).2.1 ∧ (editOf c size).2.1 ≤ size - (editOf c size).1 ∧ (editOf c size).2.2.length ≤ 8 := by
  have h1 := pick_in (a := c.1) (n := size + 1) (by omega)
  have h2 := pick_in (a := c.2.1) (n := min (size - pickOf c.1 (size + 1)) 12 + 1) (by omega)
  have h3 := text_len c.2.2 8
  refine ⟨h1.1, by have := h1.2; show pickOf _ _ ≤ _; omega, h2.1, by have := h2.2; show pickOf _ _ ≤ size - pickOf _ _; omega, h3⟩
theorem gt_made_lo {s put : Bytes} {k cut j : Int} (h0 : 0 ≤ k) (h1 : k ≤ s.length) (j0 : 0 ≤ j) (j1 : j < k) : gt (editMade s (k, cut, put)) j = gt s j := by
  unfold editMade
  simp only
  have hl : (s.take k.toNat).length = k.toNat := by rw [List.length_take]; omega
  rw [List.append_assoc, gt_append_l j0 (by omega), gt_in j0 (by omega), gt_in j0 (by omega), List.getElem_take]
theorem drop_made {s put : Bytes} {k cut : Int} (h0 : 0 ≤ k) (h1 : k ≤ s.length) (h2 : 0 ≤ cut) (h3 : cut ≤ s.length - k) (i : Nat) : (editMade s (k, cut, put)).drop ((k + put.length).toNat + i) = s.drop ((k + cut).toNat + i) := by
  unfold editMade
  simp only
  have hl : (s.take k.toNat ++ put).length = (k + put.length).toNat := by rw [List.length_append, List.length_take]; omega
  rw [← hl, List.drop_length_add_append, List.drop_drop]
theorem gt_made_hi {s put : Bytes} {k cut j : Int} (h0 : 0 ≤ k) (h1 : k ≤ s.length) (h2 : 0 ≤ cut) (h3 : cut ≤ s.length - k) (j0 : k + cut ≤ j) (j1 : j < s.length) : gt (editMade s (k, cut, put)) (j - cut + put.length) = gt s j := by
  have e := drop_made (put := put) h0 h1 h2 h3 (j - k - cut).toNat
  have a : (k + cut).toNat + (j - k - cut).toNat = j.toNat := by omega
  have b : (k + put.length).toNat + (j - k - cut).toNat = (j - cut + put.length).toNat := by omega
  rw [a, b] at e
  have x := congrArg (·[0]?) e
  simp only [List.getElem?_drop, Nat.add_zero] at x
  have y := gt_get? (l := s) (i := j) (by omega) j1
  have hl : (editMade s (k, cut, put)).length = s.length - cut + put.length := by
    unfold editMade; simp only [List.length_append, List.length_take, List.length_drop]; omega
  have z := gt_get? (l := editMade s (k, cut, put)) (i := j - cut + put.length) (by omega) (by omega)
  rw [y, z] at x
  exact Option.some.inj x
theorem shift_none {size : Int} {e : Edit} (hs : 0 ≤ size) (hs1 : size ≤ 600) (hf : editFault size e = 0) : ∃ l, spansShift size [] e = (l, 0) ∧ (0 < (l.length : Int) ↔ e.2.2 ≠ []) := by
  have ok : spansOk size [] := ⟨hs, by omega, by simp, trivial⟩
  obtain ⟨m1, m2, m3, m4, m5, m6, m7⟩ := editMay_iff.1 (show editMay size e from hf)
  have hP : isCanon (shiftP [] e) (if e.2.2 = [] then [] else [(e.1, e.1 + e.2.2.length)]) := by
    by_cases p : e.2.2 = []
    · rw [if_pos p]
      refine ⟨trivial, fun i => ?_⟩
      refine ⟨fun h => absurd h (inSp_nil _), fun h => ?_⟩
      exfalso
      rcases h with ⟨j, h, _⟩ | h
      · exact inSp_nil _ h
      · rw [p] at h; simp at h; omega
    · rw [if_neg p]
      have : 0 < e.2.2.length := List.length_pos_iff.2 p
      refine ⟨⟨by show (-1 : Int) < e.1; omega, by show e.1 < _; omega, by show e.1 + _ ≤ (_ : Int); omega, trivial⟩, fun i => ?_⟩
      rw [inSp_one]
      refine ⟨fun h => .inr h, fun h => ?_⟩
      rcases h with ⟨j, h, _⟩ | h
      · exact absurd h (inSp_nil _)
      · exact h
  refine ⟨shifted [] e, ?_, ?_⟩
  · rw [spansShift_c ok hf]
    unfold spansFull shifted
    rw [canon_eq hP, if_neg]
    split <;> simp
  · unfold shifted
    rw [canon_eq hP]
    split <;> simp_all
theorem dirty {s put : Bytes} {k cut : Int} (hs : s.length ≤ 100) (h0 : 0 ≤ k) (h1 : k ≤ s.length) (h2 : 0 ≤ cut) (h3 : cut ≤ s.length - k) (h4 : put.length ≤ 8) :
    ∃ t l w o, editApply s [(k, cut, put)] = (t, 0) ∧ t.length ≤ 108 ∧ spansShift s.length [] (k, cut, put) = (l, 0) ∧ (0 < (l.length : Int) ↔ put ≠ []) ∧ spansWiden t (k, k + put.length) = (w, 0) ∧ spansWiden s (k, k + cut) = (o, 0) ∧
      (0 ≤ o.1 ∧ o.1 ≤ s.length) ∧ (0 ≤ w.1 ∧ w.1 ≤ t.length) ∧ (0 ≤ o.2 ∧ o.2 ≤ s.length) ∧ (0 ≤ w.2 ∧ w.2 ≤ t.length) ∧ t.take w.1.toNat = s.take o.1.toNat ∧ t.drop w.2.toNat = s.drop o.2.toNat := by
  have hf : editFault s.length (k, cut, put) = 0 := editMay_iff.2 ⟨by omega, by omega, h0, h1, h2, h3, by simp only; omega⟩
  have hc : editsCode s [(k, cut, put)] = 0 := by
    unfold editsCode
    rw [if_neg (by simp; omega)]
    simp only [editCode]
    rw [if_neg (by rw [hf]; simp)]
  have hl : ((editMade s (k, cut, put)).length : Int) = s.length - cut + put.length := by
    unfold editMade; simp only [List.length_append, List.length_take, List.length_drop]; omega
  obtain ⟨l, e1, e2⟩ := shift_none (size := s.length) (e := (k, cut, put)) (by omega) (by omega) hf
  obtain ⟨r, r0, r1, r2, r3⟩ := lineLo_ex s k.toNat
  have kk : ((k.toNat : Nat) : Int) = k := by omega
  rw [kk] at r1 r2
  obtain ⟨q, hq⟩ := hiOk_ex s (s.length - (k + cut).toNat) (k + cut) (by omega) (by omega)
  have a1 := lineLo_eq ⟨r0, r1, r2, r3⟩
  have a2 : lineLo (editMade s (k, cut, put)) k = r := lineLo_eq ⟨r0, r1, fun j b1 b2 => by rw [gt_made_lo h0 h1 (by omega) b2]; exact r2 j b1 b2, fun b => by rw [gt_made_lo h0 h1 (by omega) (by omega)]; exact r3 b⟩
  have a3 := lineHi_eq hq
  obtain ⟨q0, q1, q2, q3⟩ := hq
  have a4 : lineHi (editMade s (k, cut, put)) (k + put.length) = q - cut + put.length := by
    refine lineHi_eq ⟨by omega, by omega, fun j b1 b2 => ?_, fun b => ?_⟩
    · have := gt_made_hi (put := put) (j := j + cut - put.length) h0 h1 h2 h3 (by omega) (by omega)
      rw [show j + cut - (put.length : Int) - cut + put.length = j by omega] at this
      rw [this]; exact q2 _ (by omega) (by omega)
    · have h5 : q < s.length ∨ k + cut < q ∧ gt s (q - 1) = 10 := by
        rcases b with b | b
        · exact .inl (by omega)
        · refine .inr ⟨by omega, ?_⟩
          have := gt_made_hi (put := put) (j := q - 1) h0 h1 h2 h3 (by omega) (by omega)
          rw [← this, show q - 1 - cut + (put.length : Int) = q - cut + put.length - 1 by omega]; exact b.2
      obtain ⟨c1, c2⟩ := q3 h5
      refine ⟨by omega, ?_⟩
      have := gt_made_hi (put := put) (j := q - 1) h0 h1 h2 h3 (by omega) (by omega)
      rw [show q - cut + (put.length : Int) - 1 = q - 1 - cut + put.length by omega, this]; exact c2
  refine ⟨editMade s (k, cut, put), l, (r, q - cut + put.length), (r, q), ?_, by omega, e1, e2, ?_, ?_, ⟨r0, by show r ≤ _; omega⟩, ⟨r0, by show r ≤ _; omega⟩, ⟨by show 0 ≤ q; omega, q1⟩, ⟨by show 0 ≤ q - cut + _; omega, by show q - cut + _ ≤ _; omega⟩, ?_, ?_⟩
  · unfold editApply editRun
    rw [if_pos hc]
    rfl
  · unfold spansWiden widened
    rw [if_neg (by omega), if_neg (by simp only; omega)]
    simp only [a2, a4]
  · unfold spansWiden widened
    rw [if_neg (by omega), if_neg (by simp only; omega)]
    simp only [a1, a3]
  · show (editMade s (k, cut, put)).take r.toNat = s.take r.toNat
    unfold editMade
    simp only
    rw [List.append_assoc, List.take_append_of_le_length (by rw [List.length_take]; omega), List.take_take, Nat.min_eq_left (by omega)]
  · show (editMade s (k, cut, put)).drop (q - cut + put.length).toNat = s.drop q.toNat
    have := drop_made (put := put) h0 h1 h2 h3 (q - k - cut).toNat
    rw [show (k + (put.length : Int)).toNat + (q - k - cut).toNat = (q - cut + put.length).toNat by omega, show (k + cut).toNat + (q - k - cut).toNat = q.toNat by omega] at this
    exact this
end Go.Fu
