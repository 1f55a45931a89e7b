/- The contracts of the functions that the law reaches, and that of the law. Conditions: none. -/
import Derived.Test.YtoiebdgnfjgcpaaWMarksOrders
import Derived.Test.YtoiebdgnfjgcpaaM4
set_option linter.unusedVariables false
set_option linter.unusedSimpArgs false
set_option maxRecDepth 100000
namespace Go.Proofs.Ytoiebdgnfjgcpaa
open Go.Vc Go.Fu

theorem cmp_isNaN_int__hC : Cons Try.prog [] := trivial
theorem cmp_isNaN_int__con : Con Try.prog f_cmp_isNaN_int_ cmp_isNaN_int__ct := cmp_isNaN_int__vc cmp_isNaN_int__hC fun x _ => by
  rw [bo_false]; exact fun h => h rfl

theorem cmp_Compare_int__hC : Cons Try.prog [(f_cmp_isNaN_int_, cmp_isNaN_int__ct)] := ⟨cmp_isNaN_int__con, trivial⟩
theorem cmp_Compare_int__con : Con Try.prog f_cmp_Compare_int_ cmp_Compare_int__ct := cmp_Compare_int__vc cmp_Compare_int__hC fun x y _ => by
  refine ⟨trivial, trivial, fun h => absurd h (by decide), fun _ => ⟨fun h => absurd h (by decide), fun _ => ⟨fun h => ?_, fun h => ⟨fun h2 => ?_, fun h2 => ?_⟩⟩⟩⟩ <;> unfold cmpI
  · rw [if_pos h]
  · rw [if_neg h, if_pos h2]
  · rw [if_neg h, if_neg h2]

theorem cmp_Or_int__hC : Cons Try.prog [] := trivial
theorem cmp_Or_int__con : Con Try.prog f_cmp_Or_int_ cmp_Or_int__ct := cmp_Or_int__vc cmp_Or_int__hC fun l h => by
  refine ⟨fun x => 0 ≤ x ∧ x ≤ l.length ∧ orL (l.drop x.toNat) = orL l, fun x => (l.length - x).toNat, ⟨by omega, by omega, rfl⟩, ?_⟩
  rintro x ⟨x0, x1, x2⟩
  have hf : (l.length : Int) ≤ 140737488351232 := by unfold fitL at h; omega
  refine ⟨fun hx => ⟨x0, hx, fun c => ?_, fun c => ⟨by unfold inI64; omega, ⟨by omega, by omega, ?_⟩, by dsimp only; omega⟩⟩, fun hx => ?_⟩
  · rw [← x2, drop_gt x0 hx, orL, if_pos c]
  · rw [drop_gt x0 hx, orL, if_neg c] at x2
    exact x2
  · rw [← x2, List.drop_eq_nil_of_le (by omega)]; rfl
theorem marks_Order_con : Con Try.prog f_marks_Order marks_Order_ct := M.marks_Order_con' cmp_Compare_int__con cmp_Or_int__con

theorem ref_MarksOrder_hC : Cons Try.prog [] := trivial
theorem ref_MarksOrder_con : Con Try.prog f_ref_MarksOrder ref_MarksOrder_ct := ref_MarksOrder_vc ref_MarksOrder_hC fun ms h => by
  refine ⟨fun q => ?_, fun q => ⟨rfl, by omega, by omega, fun x out => 0 ≤ x ∧ x ≤ ms.length ∧ out.length = ms.length ∧ ∀ y : Int, 0 ≤ y → y < x → gt out (rankOf ms y) = y, fun x _ => (ms.length - x).toNat, ⟨by omega, by omega, by simp, fun y a b => by omega⟩, fun x out ⟨x0, x1, x2, x3⟩ => ?_⟩⟩
  · unfold marksOrder; rw [if_pos (by omega)]; exact ⟨rfl, rfl⟩
  have hl : (stab (mkLt ms) (upTo ms.length)).length = ms.length := by rw [stab_len (mk_swo ms), upTo_len]
  refine ⟨fun hx => ⟨x0, hx, fun n y => 0 ≤ y ∧ y ≤ ms.length ∧ n = ((upTo y.toNat).countP fun k => bo (aheadP ms k x) : Nat), fun _ y => (ms.length - y).toNat, ⟨rfl, rfl, rfl, by omega, by omega, rfl⟩, fun n y ⟨y0, y1, hn⟩ => ?_⟩, fun hx => ?_⟩
  · have hc : (upTo y.toNat).countP (fun k => bo (aheadP ms k x)) ≤ y.toNat := by
      have := List.countP_le_length (p := fun k => bo (aheadP ms k x)) (l := upTo y.toNat)
      rwa [upTo_len] at this
    have hsucc : (upTo (y + 1).toNat).countP (fun k => bo (aheadP ms k x)) = (upTo y.toNat).countP (fun k => bo (aheadP ms k x)) + if bo (aheadP ms y x) = true then 1 else 0 := by
      rw [show (y + 1).toNat = y.toNat + 1 by omega, upTo_succ, List.countP_append, List.countP_singleton, show ((y.toNat : Nat) : Int) = y by omega]
    refine ⟨fun hy => ⟨y0, hy, fun c => ?_, fun c => ?_⟩, fun hy => ?_⟩
    · have c : aheadP ms y x := c
      rw [if_pos (bo_true.2 c)] at hsucc
      exact ⟨by unfold inI64; omega, by unfold inI64; omega, rfl, rfl, rfl, ⟨by omega, by omega, by rw [hsucc, hn]; omega⟩, by dsimp only; omega⟩
    · have c : ¬ aheadP ms y x := c
      rw [if_neg (fun q => c (bo_true.1 q))] at hsucc
      exact ⟨by unfold inI64; omega, rfl, rfl, rfl, ⟨by omega, by omega, by rw [hsucc, hn]; omega⟩, by dsimp only; omega⟩
    · have hr : n = (rankOf ms x : Int) := by rw [hn, show y.toNat = ms.length by omega]; rfl
      obtain ⟨r1, r2⟩ := rank_inv ms x0 hx
      refine ⟨by omega, by omega, by unfold inI64; omega, ⟨by omega, by omega, by rw [List.length_set]; exact x2, fun z z0 z1 => ?_⟩, by dsimp only; omega⟩
      subst hr
      by_cases e : z = x
      · subst e
        rw [gt_set_eq (by omega) (by omega)]
      · obtain ⟨s1, s2⟩ := rank_inv ms z0 (by omega : z < ms.length)
        rw [gt_set_ne (by omega) (by omega) (fun h => e (by rw [← s2, ← r2, h]))]
        exact x3 z z0 (by omega)
  · unfold marksOrder
    rw [if_neg (by omega)]
    refine ⟨?_, rfl⟩
    refine ext_gt (by rw [hl]; omega) fun p p0 p1 => ?_
    have := x3 (gt (stab (mkLt ms) (upTo ms.length)) p) ?_ ?_
    · rw [rank_at ms p0 (by omega)] at this; exact this
    all_goals
      obtain ⟨g1, _⟩ := stab_spec (mk_swo ms) (upTo ms.length)
      have hm := upTo_mem.1 (g1.1.mem_iff.2 (gt_mem (l := stab (mkLt ms) (upTo ms.length)) p0 (by omega)))
      omega

theorem law_sameInts_hC : Cons Try.prog [] := trivial
theorem law_sameInts_con : Con Try.prog f_law_sameInts law_sameInts_ct := law_sameInts_vc law_sameInts_hC fun a b h => by
  simp only [inI_iff, true_and, and_true, ne_eq, Int.reduceEq, not_false_eq_true, Int.toNat_zero, false_bo, true_bo, fitL] at *
  refine ⟨fun q e => q (by rw [e]), fun q => ⟨fun i => 0 ≤ i ∧ i ≤ a.length ∧ ∀ j : Int, 0 ≤ j → j < i → gt a j = gt b j, fun i => (a.length - i).toNat, ⟨by omega, by omega, fun j h1 h2 => by omega⟩, fun i ⟨h0, h1, h2⟩ => ?_⟩⟩
  dsimp only
  refine ⟨fun r => ⟨h0, r, h0, by omega, fun t e => t (by rw [e]), fun t => ⟨by omega, ⟨by omega, by omega, fun j j0 j1 => ?_⟩, by omega⟩⟩, fun r => ?_⟩
  · by_cases e : j = i
    · rw [e]; exact Classical.byContradiction t
    · exact h2 j j0 (by omega)
  · exact ext_gt (by omega) fun j j0 j1 => h2 j j0 (by omega)

theorem law_MarksOrders_hC : Cons Try.prog [(f_marks_Order, marks_Order_ct), (f_ref_MarksOrder, ref_MarksOrder_ct), (f_law_sameInts, law_sameInts_ct)] := ⟨marks_Order_con, ref_MarksOrder_con, law_sameInts_con, trivial⟩
theorem law_MarksOrders_con : Con Try.prog f_law_MarksOrders law_MarksOrders_ct := law_MarksOrders_vc law_MarksOrders_hC fun ms h => by
  have : fitL (marksOrder ms).1 := by
    unfold marksOrder
    split
    · exact Nat.zero_le _
    · show (stab (mkLt ms) (upTo ms.length)).length ≤ _
      rw [stab_len (mk_swo ms), upTo_len]; omega
  exact ⟨trivial, trivial, ⟨this, this⟩, by simp⟩

end Go.Proofs.Ytoiebdgnfjgcpaa
