/-
  Cursors: specifications and contracts.
-/
import Derived.Test.YtkemhbclkglmbaaVpSA
import Derived.Test.YtkemhbclkglmbaaVpZ
import Derived.Test.YtkemhbclkglmbaaVpP
set_option linter.unusedVariables false
set_option linter.unusedSimpArgs false
namespace Go.Fu
open Go.Vc
abbrev Cur := Int × Int
abbrev tCur : Ty := .st (.cons tI (.cons tI .nil))
def cLo (c : Cur) : Int := min c.1 c.2
def cHi (c : Cur) : Int := max c.1 c.2
noncomputable section
def cursors_lo_ct : Ct := ⟨tys1 tCur, [.val tI], fun _ => True, fun c => cLo c⟩
def cursors_hi_ct : Ct := ⟨tys1 tCur, [.val tI], fun _ => True, fun c => cHi c⟩
def curCf (a b : Cur) : Int := orL [cmpI (cLo a) (cLo b), cmpI (cHi a) (cHi b)]
def curLt (a b : Cur) : Prop := curCf a b < 0
abbrev fnCur : Nat := 90
def curDec : List TV → Option (Ts .nil)
  | [] => some ()
  | _ => none
theorem curDec_ok : ∀ xs k, curDec xs = some k → xs = ([] : List TV) := fun xs k h => by
  cases xs with
  | nil => rfl
  | cons x xs => cases h
def cur_q : Sq := ⟨tCur, fnCur, .nil, fun _ => [], curDec, curDec_ok, fun _ _ => True, fun _ a b => curCf a b, fun _ => curLt, fun _ _ _ => Iff.rfl⟩
instance curInh : Inhabited (T cur_q.et) := ⟨((0, 0) : Int × Int)⟩
def cursors_norm_1_cr : Cr := cur_q.cr
theorem cursors_norm_1_cr_dec : ∀ xs k, cursors_norm_1_cr.dec xs = some k → xs = cursors_norm_1_cr.caps k := cur_q.decok
def insCur_cz : Cz := ins_cz cur_q
theorem insCur_cz_dec : ∀ xs k a, insCur_cz.dec xs = some (k, a) → xs = insCur_cz.call k a := dec2_ok cur_q
def swrCur_cz : Cz := swr_cz cur_q
theorem swrCur_cz_dec : ∀ xs k a, swrCur_cz.dec xs = some (k, a) → xs = swrCur_cz.call k a := dec3_ok cur_q
def rotCur_cz : Cz := rot_cz cur_q
theorem rotCur_cz_dec : ∀ xs k a, rotCur_cz.dec xs = some (k, a) → xs = rotCur_cz.call k a := dec3_ok cur_q
def symCur_cz : Cz := sym_cz cur_q
theorem symCur_cz_dec : ∀ xs k a, symCur_cz.dec xs = some (k, a) → xs = symCur_cz.call k a := dec3_ok cur_q
def symNCur_cz (n : Nat) : Cz := symN_cz cur_q n
theorem symNCur_cz_dec (n : Nat) : ∀ xs k a, (symNCur_cz n).dec xs = some (k, a) → xs = (symNCur_cz n).call k a := dec3_ok cur_q
def stbCur_cz : Cz := stb_cz cur_q
theorem stbCur_cz_dec : ∀ xs k a, stbCur_cz.dec xs = some (k, a) → xs = stbCur_cz.call k a := dec1_ok cur_q
def sstCur_cz : Cz := sst_cz cur_q
theorem sstCur_cz_dec : ∀ xs k a, sstCur_cz.dec xs = some (k, a) → xs = sstCur_cz.call k a := dec0_ok cur_q
end
end Go.Fu

/-
  Cursors: the reference's cursors, and their sort's contracts.
-/
set_option linter.unusedVariables false
set_option linter.unusedSimpArgs false
namespace Go.Fu
open Go.Vc
abbrev Held := Int × Int × Bool
abbrev tHeld : Ty := .st (.cons tI (.cons tI (.cons .bool .nil)))
def heldLt (a b : Held) : Prop := a.1 < b.1 ∨ a.1 = b.1 ∧ a.2.1 < b.2.1
abbrev fnHeld : Nat := 92
abbrev fnSwap9 : Nat := 137
def heldDec : List TV → Option (Ts .nil)
  | [.rop [.slf l]] => (match Nat.beq l 0 with | true => some () | false => none)
  | _ => none
theorem heldDec_ok : ∀ xs k, heldDec xs = some k → xs = ([.rop [.slf 0]] : List TV) := fun xs k h => by
  unfold heldDec at h
  split at h
  · split at h
    · rename_i h1
      rw [beq_eq h1]
    · cases h
  · cases h
def heldDecR : List TV → Option (List Held)
  | [.rop [.ros (.st (.cons (.int .i64) (.cons (.int .i64) (.cons .bool .nil)))) r]] => some r
  | _ => none
noncomputable section
def held_q : Sl := ⟨tHeld, fnHeld, .nil, fun _ => [.rop [.slf 0]], heldDec, heldDec_ok, fnSwap9, 1, 120, fun _ _ => True, fun _ => heldLt⟩
instance heldInh : Inhabited (T held_q.et) := ⟨((0, 0, false) : Held)⟩
def ref_cursorsNormed_1_cr : Cr := ⟨tys2 tI tI, tys1 (.sl tHeld), fun (ls : List Held) => [.rop [.ros tHeld ls]], heldDecR,
  fun (ls : List Held) (x : Int × Int) => 0 ≤ x.1 ∧ x.1 < ls.length ∧ 0 ≤ x.2 ∧ x.2 < ls.length ∧ (ls.length : Int) ≤ 140737488351232, .bool, fun (ls : List Held) (x : Int × Int) => bo (heldLt (gt ls x.1) (gt ls x.2))⟩
theorem ref_cursorsNormed_1_cr_dec : ∀ xs k, ref_cursorsNormed_1_cr.dec xs = some k → xs = ref_cursorsNormed_1_cr.caps k := fun xs k h => by
  show xs = ([.rop [.ros tHeld (k : List Held)]] : List TV)
  have h : heldDecR xs = some k := h
  unfold heldDecR at h
  split at h
  · cases h; rfl
  · cases h
def swpH_cz : Cz := swpD_cz held_q
def insH_cz : Cz := insD_cz held_q
theorem insH_cz_dec : ∀ xs k a, insH_cz.dec xs = some (k, a) → xs = insH_cz.call k a := decD2_ok held_q
def swrH_cz : Cz := swrD_cz held_q
theorem swrH_cz_dec : ∀ xs k a, swrH_cz.dec xs = some (k, a) → xs = swrH_cz.call k a := decD3_ok held_q
def rotH_cz : Cz := rotD_cz held_q
theorem rotH_cz_dec : ∀ xs k a, rotH_cz.dec xs = some (k, a) → xs = rotH_cz.call k a := decD3_ok held_q
def symH_cz : Cz := symD_cz held_q
theorem symH_cz_dec : ∀ xs k a, symH_cz.dec xs = some (k, a) → xs = symH_cz.call k a := decD3_ok held_q
def symNH_cz (n : Nat) : Cz := symND_cz held_q n
theorem symNH_cz_dec (n : Nat) : ∀ xs k a, (symNH_cz n).dec xs = some (k, a) → xs = (symNH_cz n).call k a := decD3_ok held_q
def stbH_cz : Cz := stbD_cz held_q
def held_sls_sf : Fi := slsFi stbH_cz 118 fnSwap9 1 120
theorem stbH_cz_dec : ∀ xs k a, stbH_cz.dec xs = some (k, a) → xs = stbH_cz.call k a := decD1_ok held_q
end
theorem held_swo : Swo heldLt where
  irrefl x := by unfold heldLt; omega
  trans x y z := by unfold heldLt; omega
  ntrans x y z := by unfold heldLt; omega
theorem stab_small {α : Type} [Inhabited α] {lt : α → α → Prop} (hs : Swo lt) {ls : List α} (h : ls.length ≤ 1) : stab lt ls = ls :=
  stab_eq hs (.refl _) (by
    match ls, h with
    | [], _ => exact .nil
    | [a], _ => simp [Srt])
end Go.Fu

/-
  Cursors: what the functions answer.
-/
set_option linter.unusedVariables false
set_option linter.unusedSimpArgs false
set_option linter.unusedSectionVars false
namespace Go.Fu
open Go.Vc
noncomputable section
open Classical in
def cursorsFault (size : Int) (l : List Cur) : Int :=
  if 20 < l.length then 1 else if size < 0 ∨ 600 < size then 2 else if ∃ c ∈ l, cLo c < 0 ∨ size < cHi c then 2 else 0
def curTurned (a b : Cur) : Prop := a.2 < a.1 ∨ a.1 = a.2 ∧ b.2 < b.1
open Classical in
def curBoth (a b : Cur) : Cur := if curTurned a b then (max (cHi a) (cHi b), cLo a) else (cLo a, max (cHi a) (cHi b))
def curTouch (a c : Cur) : Prop := cLo c < cHi a ∨ cLo c = cHi a ∧ (cLo a = cHi a ∨ cLo c = cHi c)
open Classical in
def curStep (out : List Cur) (c : Cur) : List Cur :=
  if 0 < out.length ∧ curTouch (gt out ((out.length : Int) - 1)) c then out.set (out.length - 1) (curBoth (gt out ((out.length : Int) - 1)) c) else out ++ [c]
def curFold (l : List Cur) : List Cur := l.foldl curStep []
def curNorm (l : List Cur) : List Cur := curFold (stab curLt l)
def slices_Clone___api_Cursor_api_Cursor__ct : Ct := ⟨tys1 (.sl tCur), [.own tCur], fun l => fitM l, fun l => l⟩
def cursors_fault_ct : Ct := ⟨tys2 tI (.sl tCur), [.val tI], fun x => inI64 x.1, fun x => cursorsFault x.1 x.2⟩
def ref_cursorsFault_ct : Ct := cursors_fault_ct
def cursors_both_ct : Ct := ⟨tys2 tCur tCur, [.val tCur], fun _ => True, fun x => curBoth x.1 x.2⟩
abbrev few (l : List Cur) : Prop := l.length ≤ 20
def cursors_norm_ct : Ct := ⟨tys1 (.sl tCur), [.own tCur], fun l => few l, fun l => curNorm l⟩
def ref_cursorsNormed_ct : Ct := cursors_norm_ct
open Classical in
def cursorsNorm (size : Int) (l : List Cur) : List Cur × Int := if cursorsFault size l ≠ 0 then ([], cursorsFault size l) else (curNorm l, 0)
def cursors_Norm_ct : Ct := ⟨tys2 tI (.sl tCur), [.own tCur, .val tI], fun x => inI64 x.1, fun x => cursorsNorm x.1 x.2⟩
def ref_CursorsNorm_ct : Ct := cursors_Norm_ct
def law_sameCursors_ct : Ct := ⟨tys2 (.sl tCur) (.sl tCur), [.val .bool], fun x => fitM x.1 ∧ fitM x.2, fun x => bo (x.1 = x.2)⟩
end
theorem cur_swo : Swo curLt where
  irrefl x := by simp only [curLt, curCf, orL, cmpI]; split <;> omega
  trans x y z := by simp only [curLt, curCf, orL, cmpI]; intro h1 h2; repeat' split at h1 <;> repeat' split at h2 <;> repeat' split <;> omega
  ntrans x y z := by simp only [curLt, curCf, orL, cmpI]; intro h1 h2; repeat' split at h1 <;> repeat' split at h2 <;> repeat' split <;> omega
theorem curLt_iff {a b : Cur} : curLt a b ↔ cLo a < cLo b ∨ cLo a = cLo b ∧ cHi a < cHi b := by
  simp only [curLt, curCf, orL, cmpI]; repeat' split <;> omega
theorem fault_a {size : Int} {l : List Cur} (h : 20 < l.length) : cursorsFault size l = 1 := by unfold cursorsFault; rw [if_pos h]
theorem fault_b {size : Int} {l : List Cur} (h : ¬ 20 < l.length) (h2 : size < 0 ∨ 600 < size) : cursorsFault size l = 2 := by unfold cursorsFault; rw [if_neg h, if_pos h2]
theorem fault_c {size : Int} {l : List Cur} (h : ¬ 20 < l.length) (h2 : ¬ (size < 0 ∨ 600 < size)) {i : Int} (i0 : 0 ≤ i) (i1 : i < l.length) (h3 : cLo (gt l i) < 0 ∨ size < cHi (gt l i)) : cursorsFault size l = 2 := by
  unfold cursorsFault; rw [if_neg h, if_neg h2, if_pos ⟨_, gt_mem i0 i1, h3⟩]
theorem fault_d {size : Int} {l : List Cur} (h : ¬ 20 < l.length) (h2 : ¬ (size < 0 ∨ 600 < size)) (h3 : ∀ j : Int, 0 ≤ j → j < l.length → 0 ≤ cLo (gt l j) ∧ cHi (gt l j) ≤ size) : cursorsFault size l = 0 := by
  unfold cursorsFault
  rw [if_neg h, if_neg h2, if_neg]
  rintro ⟨c, hc, q⟩
  obtain ⟨j, j0, j1, rfl⟩ := mem_gt hc
  have := h3 j j0 j1
  omega
theorem fault_ok {size : Int} {l : List Cur} (h : cursorsFault size l = 0) : l.length ≤ 20 ∧ 0 ≤ size ∧ size ≤ 600 ∧ ∀ c ∈ l, 0 ≤ cLo c ∧ cHi c ≤ size := by
  by_cases a : 20 < l.length
  · rw [fault_a a] at h; omega
  by_cases b : size < 0 ∨ 600 < size
  · rw [fault_b a b] at h; omega
  refine ⟨by omega, by omega, by omega, fun c hc => ?_⟩
  obtain ⟨j, j0, j1, rfl⟩ := mem_gt hc
  refine Classical.not_not.1 fun q => ?_
  rw [fault_c a b j0 j1 (by omega)] at h
  omega
theorem both_pos {a b : Cur} (h : curTurned a b) : curBoth a b = (max (cHi a) (cHi b), cLo a) := by unfold curBoth; rw [if_pos h]
theorem both_neg {a b : Cur} (h : ¬ curTurned a b) : curBoth a b = (cLo a, max (cHi a) (cHi b)) := by unfold curBoth; rw [if_neg h]
theorem step_pos {out : List Cur} {c : Cur} (h : 0 < out.length) (t : curTouch (gt out ((out.length : Int) - 1)) c) : curStep out c = out.set (out.length - 1) (curBoth (gt out ((out.length : Int) - 1)) c) := by unfold curStep; rw [if_pos ⟨h, t⟩]
theorem step_neg {out : List Cur} {c : Cur} (h : ¬ (0 < out.length ∧ curTouch (gt out ((out.length : Int) - 1)) c)) : curStep out c = out ++ [c] := by unfold curStep; rw [if_neg h]
theorem step_len (out : List Cur) (c : Cur) : (curStep out c).length ≤ out.length + 1 := by unfold curStep; split <;> simp
theorem fold_succ {l : List Cur} {i : Int} (h0 : 0 ≤ i) (h1 : i < l.length) : curFold (l.take (i + 1).toNat) = curStep (curFold (l.take i.toNat)) (gt l i) := by
  rw [take_gt h0 h1]; simp [curFold]
theorem fold_len (l : List Cur) : (curFold l).length ≤ l.length := by
  have : ∀ (l : List Cur) (o : List Cur), (l.foldl curStep o).length ≤ o.length + l.length := fun l => by
    induction l with
    | nil => intro o; simp
    | cons c r ih => intro o; have := ih (curStep o c); have := step_len o c; simp only [List.foldl_cons, List.length_cons]; omega
  simpa [curFold] using this l []
theorem norm_len (l : List Cur) : (curNorm l).length ≤ l.length := by
  have := fold_len (stab curLt l)
  rw [stab_len cur_swo] at this
  exact this
theorem norm_few (size : Int) (l : List Cur) : (cursorsNorm size l).1.length ≤ 20 := by
  unfold cursorsNorm
  split
  · simp
  · rename_i h
    have := (fault_ok (Classical.not_not.1 h)).1
    have := norm_len l
    show (curNorm l).length ≤ 20
    omega

/-! ### The reference's cursors -/
noncomputable def heldOf (c : Cur) : Held := (cLo c, cHi c, bo (c.2 < c.1))
def unHeld (h : Held) : Cur := if h.2.2 = true then (h.2.1, h.1) else (h.1, h.2.1)
theorem held_lt {c : Cur} (h : c.2 < c.1) : heldOf c = (c.2, c.1, true) := by
  unfold heldOf cLo cHi
  rw [show bo (c.2 < c.1) = true from bo_true.2 h, Int.min_eq_right (by omega), Int.max_eq_left (by omega)]
theorem held_ge {c : Cur} (h : ¬ c.2 < c.1) : heldOf c = (c.1, c.2, false) := by
  unfold heldOf cLo cHi
  rw [show bo (c.2 < c.1) = false from bo_false.2 h, Int.min_eq_left (by omega), Int.max_eq_right (by omega)]
theorem un_held (c : Cur) : unHeld (heldOf c) = c := by
  by_cases h : c.2 < c.1
  · rw [held_lt h]; rfl
  · rw [held_ge h]; rfl
theorem held_stab (l : List Cur) : stab heldLt (l.map heldOf) = (stab curLt l).map heldOf := by
  obtain ⟨⟨g1, g2⟩, g3⟩ := stab_spec cur_swo l
  have lt : ∀ a b : Cur, heldLt (heldOf a) (heldOf b) ↔ curLt a b := fun a b => by rw [curLt_iff]; rfl
  refine stab_eq held_swo ⟨g1.map _, fun z => ?_⟩ ?_
  · have cl : ∀ l : List Cur, cls heldLt z (l.map heldOf) = (l.filter fun x => bo (alike heldLt z (heldOf x))).map heldOf := fun l => by
      unfold cls
      rw [List.filter_map]; rfl
    rw [cl, cl]
    by_cases q : z.1 ≤ z.2.1
    · have e : ∀ x : Cur, alike heldLt z (heldOf x) ↔ alike curLt (z.1, z.2.1) x := fun x => by
        have m1 : cLo ((z.1, z.2.1) : Cur) = z.1 := Int.min_eq_left q
        have m2 : cHi ((z.1, z.2.1) : Cur) = z.2.1 := Int.max_eq_right q
        unfold alike
        rw [curLt_iff, curLt_iff, m1, m2]
        rfl
      have := g2 (z.1, z.2.1)
      unfold cls at this
      simp only [e]
      rw [this]
    · have e : ∀ x : Cur, ¬ alike heldLt z (heldOf x) := fun x h => by
        have m : cLo x ≤ cHi x := by unfold cLo cHi; omega
        unfold alike heldLt heldOf at h
        simp only at h
        omega
      have f : ∀ l : List Cur, (l.filter fun x => bo (alike heldLt z (heldOf x))) = [] := fun l => by
        rw [List.filter_eq_nil_iff]
        intro x _ h
        exact e x (bo_true.1 h)
      rw [f, f]
  · unfold Srt
    rw [List.pairwise_map]
    exact g3.imp fun {a b} h w => h ((lt b a).1 w)
theorem touch_held {a c : Cur} : curTouch a c ↔ ¬ ((heldOf a).2.1 ≤ (heldOf c).1 ∧ ¬ ((heldOf c).1 = (heldOf a).2.1 ∧ ((heldOf a).1 = (heldOf a).2.1 ∨ (heldOf c).1 = (heldOf c).2.1))) := by
  unfold curTouch heldOf
  simp only
  omega
theorem step_snoc_pos {o : List Cur} {a c : Cur} (h : curTouch a c) : curStep (o ++ [a]) c = o ++ [curBoth a c] := by
  have e : gt (o ++ [a]) (((o ++ [a]).length : Int) - 1) = a := by
    rw [show ((o ++ [a]).length : Int) - 1 = o.length by simp]; exact gt_append_last
  rw [step_pos (by simp) (by rw [e]; exact h), e]
  simp
theorem step_snoc_neg {o : List Cur} {a c : Cur} (h : ¬ curTouch a c) : curStep (o ++ [a]) c = o ++ [a] ++ [c] := by
  have e : gt (o ++ [a]) (((o ++ [a]).length : Int) - 1) = a := by
    rw [show ((o ++ [a]).length : Int) - 1 = o.length by simp]; exact gt_append_last
  rw [step_neg fun w => h (by rw [e] at w; exact w.2)]
theorem lo_both (a b : Cur) : cLo (curBoth a b) = cLo a := by
  have m : cLo a ≤ cHi a := by unfold cLo cHi; omega
  by_cases h : curTurned a b
  · rw [both_pos h]; show min _ _ = _; omega
  · rw [both_neg h]; show min _ _ = _; omega
/-- Two become one: as the reference says it. -/
theorem held_both {a b : Cur} (h : cLo a ≤ cLo b) (t : Bool) (ht : ((heldOf a).1 = (heldOf a).2.1 → t = (heldOf b).2.2) ∧ (¬ (heldOf a).1 = (heldOf a).2.1 → t = (heldOf a).2.2)) :
    heldOf (curBoth a b) = ((heldOf a).1, max (heldOf a).2.1 (heldOf b).2.1, t) := by
  have m : cLo a ≤ cHi a := by unfold cLo cHi; omega
  have m2 : cLo b ≤ cHi b := by unfold cLo cHi; omega
  have tt : t = bo (curTurned a b) := by
    unfold heldOf at ht
    simp only at ht
    by_cases q : cLo a = cHi a
    · rw [ht.1 q]
      refine bo_congr ?_
      unfold curTurned
      unfold cLo cHi at q
      omega
    · rw [ht.2 q]
      refine bo_congr ?_
      unfold curTurned
      unfold cLo cHi at q
      omega
  by_cases c : curTurned a b
  · have s : cLo a < max (cHi a) (cHi b) := by
      unfold curTurned at c
      unfold cLo cHi at *
      omega
    rw [both_pos c, held_lt (by exact s), tt, bo_true.2 c]; rfl
  · rw [both_neg c, held_ge (by show ¬ max _ _ < _; omega), tt, bo_false.2 c]; rfl

/-- The reference's second loop: what is merged, the last of it, the rest. -/
def NInv (s : List Cur) (i : Int) (all : List Held) : Prop :=
  (s = [] ∧ all = [] ∧ i = 0) ∨ ∃ (k : Nat) (o : List Cur) (a : Cur), k ≤ s.length ∧ o.length + 1 ≤ k ∧ curFold (s.take k) = o ++ [a] ∧ i = o.length ∧ all = o.map heldOf ++ heldOf a :: (s.drop k).map heldOf ∧ ∀ c ∈ s.drop k, cLo a ≤ cLo c
theorem lo_le {a c : Cur} (h : ¬ curLt c a) : cLo a ≤ cLo c := by
  rw [curLt_iff] at h; omega
theorem NInv.init {s : List Cur} (h : Srt curLt s) : NInv s 0 (s.map heldOf) := by
  cases s with
  | nil => exact .inl ⟨rfl, rfl, rfl⟩
  | cons c r =>
    have h := List.pairwise_cons.1 h
    exact .inr ⟨1, [], c, by simp, by simp, by simp [curFold, step_neg], rfl, by simp, fun x hx => lo_le (h.1 x (by simpa using hx))⟩
theorem NInv.bounds {s : List Cur} {i : Int} {all : List Held} (h : NInv s i all) : 0 ≤ i ∧ all.length ≤ s.length ∧ i ≤ all.length := by
  rcases h with ⟨rfl, rfl, rfl⟩ | ⟨k, o, a, h1, h2, h3, rfl, rfl, h5⟩
  · simp
  · simp; omega
theorem NInv.fin {s : List Cur} {i : Int} {all : List Held} (h : NInv s i all) (q : ¬ i + 1 < all.length) : all = (curFold s).map heldOf := by
  rcases h with ⟨rfl, rfl, rfl⟩ | ⟨k, o, a, h1, h2, h3, rfl, rfl, h5⟩
  · rfl
  · have e : k = s.length := by simp at q; omega
    subst e
    rw [List.take_length] at h3
    rw [h3]; simp
theorem NInv.step {s : List Cur} {i : Int} {all : List Held} (hs : Srt curLt s) (h : NInv s i all) (q : i + 1 < all.length) : ∃ a c : Cur, gt all i = heldOf a ∧ gt all (i + 1) = heldOf c ∧ cLo a ≤ cLo c ∧ (¬ curTouch a c → NInv s (i + 1) all) ∧
    (curTouch a c → NInv s i (List.take i.toNat (List.drop 0 all) ++ [heldOf (curBoth a c)] ++ List.take ((all.length : Int) - (i + 2)).toNat (List.drop (i + 2).toNat all)) ∧
      (List.take i.toNat (List.drop 0 all) ++ [heldOf (curBoth a c)] ++ List.take ((all.length : Int) - (i + 2)).toNat (List.drop (i + 2).toNat all)).length + 1 = all.length) := by
  rcases h with ⟨rfl, rfl, rfl⟩ | ⟨k, o, a, h1, h2, h3, rfl, h4, h5⟩
  · simp at q
  have al : all.length = o.length + 1 + (s.length - k) := by rw [h4]; simp; omega
  have hk : k < s.length := by omega
  have hd : s.drop k = s[k] :: s.drop (k + 1) := List.drop_eq_getElem_cons hk
  have g1 : gt all (o.length : Int) = heldOf a := by
    rw [h4, gt_append_r (by simp)]; simp [gt]
  have g2 : gt all ((o.length : Int) + 1) = heldOf s[k] := by
    rw [h4, gt_append_r (by simp; omega), hd]
    simp only [List.length_map, List.map_cons]
    rw [show (o.length : Int) + 1 - o.length = 1 by omega]
    simp [gt]
  have fs : curFold (s.take (k + 1)) = curStep (o ++ [a]) s[k] := by
    have := fold_succ (l := s) (i := (k : Int)) (by omega) (by omega)
    rw [show ((k : Int) + 1).toNat = k + 1 by omega, show ((k : Int)).toNat = k by omega, h3, gt_nat_in hk] at this
    exact this
  have srt : ∀ c ∈ s.drop (k + 1), cLo s[k] ≤ cLo c := fun c hc => by
    have : (s.drop k).Pairwise fun x y => ¬ curLt y x := List.Pairwise.sublist (List.drop_sublist _ _) hs
    rw [hd] at this
    exact lo_le ((List.pairwise_cons.1 this).1 c hc)
  refine ⟨a, s[k], g1, g2, h5 _ (by rw [hd]; exact List.mem_cons_self), fun t => .inr ⟨k + 1, o ++ [a], s[k], hk, by simp; omega, by rw [fs, step_snoc_neg t], by simp, ?_, srt⟩, fun t => ?_⟩
  · rw [h4, hd]; simp only [List.map_cons, List.map_append, List.map_nil, List.append_assoc, List.cons_append, List.nil_append]
  · have e1 : List.take ((o.length : Int)).toNat (List.drop 0 all) = o.map heldOf := by
      rw [h4]; simp
    have e2 : List.take ((all.length : Int) - ((o.length : Int) + 2)).toNat (List.drop ((o.length : Int) + 2).toNat all) = (s.drop (k + 1)).map heldOf := by
      rw [List.take_of_length_le (by rw [List.length_drop]; omega), h4, hd, show ((o.length : Int) + 2).toNat = (o.map heldOf).length + 2 by rw [List.length_map]; omega, List.drop_append, List.drop_of_length_le (by omega), show (o.map heldOf).length + 2 - (o.map heldOf).length = 2 by omega]
      simp only [List.map_cons, List.drop_succ_cons, List.drop_zero, List.nil_append]
    rw [e1, e2]
    refine ⟨.inr ⟨k + 1, o, curBoth a s[k], hk, by omega, by rw [fs, step_snoc_pos t], rfl, by simp, fun c hc => ?_⟩, by simp; omega⟩
    rw [lo_both]
    exact h5 c (by rw [hd]; exact List.mem_cons_of_mem _ hc)
end Go.Fu
