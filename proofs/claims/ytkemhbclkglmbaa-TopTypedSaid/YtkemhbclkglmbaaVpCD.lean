/-
  Cursors that follow an edit; typing at all of them.
-/
import Derived.Test.YtkemhbclkglmbaaVpCA
import Derived.Test.YtkemhbclkglmbaaVpJ
set_option linter.unusedVariables false
set_option linter.unusedSimpArgs false
namespace Go.Fu
open Go.Vc
noncomputable section
def curMoved (e : Edit) (c : Cur) : Cur := (moved e c.1 true, moved e c.2 true)
open Classical in
def cursorsFollow (size : Int) (l : List Cur) (e : Edit) : List Cur × Int :=
  if cursorsFault size l ≠ 0 then ([], cursorsFault size l) else if editFault size e ≠ 0 then ([], editFault size e) else (curNorm (l.map (curMoved e)), 0)
def cursors_Follow_ct : Ct := ⟨tys3 tI (.sl tCur) tEdit, [.own tCur, .val tI], fun x => inI64 x.1 ∧ editFits x.2.2, fun x => cursorsFollow x.1 x.2.1 x.2.2⟩
def ref_CursorsFollow_ct : Ct := cursors_Follow_ct
/-- What is made so far, the place reached, the places left behind. -/
abbrev Tmade := Bytes × Int × List Cur
def tStep (text put : Bytes) (m : Tmade) (c : Cur) : Tmade :=
  (m.1 ++ ((text.take (cLo c).toNat).drop m.2.1.toNat ++ put), cHi c, m.2.2 ++ [(((m.1 ++ ((text.take (cLo c).toNat).drop m.2.1.toNat ++ put)).length : Int), ((m.1 ++ ((text.take (cLo c).toNat).drop m.2.1.toNat ++ put)).length : Int))])
def tMade (text put : Bytes) (l : List Cur) : Tmade := l.foldl (tStep text put) ([], 0, [])
def tWhole (text put : Bytes) (l : List Cur) : Bytes := (tMade text put l).1 ++ text.drop (tMade text put l).2.1.toNat
open Classical in
def cursorsType (text : Bytes) (l : List Cur) (put : Bytes) : Bytes × List Cur × Int :=
  if cursorsFault text.length l ≠ 0 then ([], [], cursorsFault text.length l)
  else if 600 < (tWhole text put (curNorm l)).length then ([], [], 1) else (tWhole text put (curNorm l), (tMade text put (curNorm l)).2.2, 0)
def cursors_Type_ct : Ct := ⟨tys3 .str (.sl tCur) .str, [.val .str, .own tCur, .val tI], fun x => fitS x.1 ∧ fitS x.2.2, fun x => cursorsType x.1 x.2.1 x.2.2⟩
def ref_CursorsType_ct : Ct := cursors_Type_ct
end
theorem follow_a {size : Int} {l : List Cur} {e : Edit} (h : ¬ cursorsFault size l = 0) : cursorsFollow size l e = ([], cursorsFault size l) := by unfold cursorsFollow; rw [if_pos h]
theorem follow_b {size : Int} {l : List Cur} {e : Edit} (h : cursorsFault size l = 0) (g : ¬ editFault size e = 0) : cursorsFollow size l e = ([], editFault size e) := by
  unfold cursorsFollow; rw [if_neg (Classical.not_not.2 h), if_pos g]
theorem follow_c {size : Int} {l : List Cur} {e : Edit} (h : cursorsFault size l = 0) (g : editFault size e = 0) : cursorsFollow size l e = (curNorm (l.map (curMoved e)), 0) := by
  unfold cursorsFollow; rw [if_neg (Classical.not_not.2 h), if_neg (Classical.not_not.2 g)]
theorem follow_few (size : Int) (l : List Cur) (e : Edit) : (cursorsFollow size l e).1.length ≤ 20 := by
  by_cases h : cursorsFault size l = 0
  · by_cases g : editFault size e = 0
    · rw [follow_c h g]
      have := norm_len (l.map (curMoved e)); have := (fault_ok h).1
      simp only [List.length_map] at *; omega
    · rw [follow_b h g]; simp
  · rw [follow_a h]; simp

/-! order of cursors made normal -/
def Apart (size : Int) (out : List Cur) : Prop :=
  ∀ i : Int, 0 ≤ i → i < out.length → 0 ≤ cLo (gt out i) ∧ cHi (gt out i) ≤ size ∧ (0 < i → cHi (gt out (i - 1)) ≤ cLo (gt out i))
theorem hi_both (a b : Cur) : cHi (curBoth a b) = max (cHi a) (cHi b) := by
  have m : cLo a ≤ cHi a := by unfold cLo cHi; omega
  by_cases h : curTurned a b
  · rw [both_pos h]; show max _ _ = _; omega
  · rw [both_neg h]; show max _ _ = _; omega
theorem lo_hi (a : Cur) : cLo a ≤ cHi a := by unfold cLo cHi; omega
theorem apart_step {size : Int} {out : List Cur} {c : Cur} (h : Apart size out) (c0 : 0 ≤ cLo c) (c1 : cHi c ≤ size) : Apart size (curStep out c) := by
  by_cases q : 0 < out.length ∧ curTouch (gt out ((out.length : Int) - 1)) c
  · rw [step_pos q.1 q.2]
    intro i i0 i1
    simp only [List.length_set] at i1
    have e : out.length - 1 = (((out.length : Int) - 1)).toNat := by omega
    rw [e]
    by_cases z : i = (out.length : Int) - 1
    · subst z
      rw [gt_set_eq (by omega) (by omega), lo_both, hi_both]
      obtain ⟨a, b, d⟩ := h _ i0 i1
      refine ⟨a, by omega, fun p => ?_⟩
      rw [gt_set_ne (by omega) (by omega) (by omega)]
      exact d p
    · rw [gt_set_ne (by omega) i0 (fun y => z y.symm)]
      obtain ⟨a, b, d⟩ := h _ i0 i1
      refine ⟨a, b, fun p => ?_⟩
      rw [gt_set_ne (by omega) (by omega) (by omega)]
      exact d p
  · rw [step_neg q]
    intro i i0 i1
    simp only [List.length_append, List.length_singleton] at i1
    by_cases z : i = out.length
    · subst z
      rw [gt_append_last]
      refine ⟨c0, c1, fun p => ?_⟩
      rw [gt_append_l (by omega) (by omega)]
      have : ¬ curTouch (gt out ((out.length : Int) - 1)) c := fun t => q ⟨by omega, t⟩
      unfold curTouch at this
      omega
    · rw [gt_append_l i0 (by omega)]
      obtain ⟨a, b, d⟩ := h _ i0 (by omega)
      refine ⟨a, b, fun p => ?_⟩
      rw [gt_append_l (by omega) (by omega)]
      exact d p
theorem apart_fold {size : Int} : ∀ (l out : List Cur), Apart size out → (∀ c ∈ l, 0 ≤ cLo c ∧ cHi c ≤ size) → Apart size (l.foldl curStep out)
  | [], out, h, _ => h
  | c :: r, out, h, g => apart_fold r (curStep out c) (apart_step h (g c (by simp)).1 (g c (by simp)).2) fun d hd => g d (by simp [hd])
theorem apart_norm {size : Int} {l : List Cur} (h : ∀ c ∈ l, 0 ≤ cLo c ∧ cHi c ≤ size) : Apart size (curNorm l) :=
  apart_fold (stab curLt l) [] (fun i i0 i1 => by simp at i1; omega) fun c hc => h c ((stab_spec cur_swo l).1.1.mem_iff.2 hc)

/-! typing -/
theorem tmade_succ {text put : Bytes} {l : List Cur} {i : Int} (h0 : 0 ≤ i) (h1 : i < l.length) : tMade text put (l.take (i + 1).toNat) = tStep text put (tMade text put (l.take i.toNat)) (gt l i) := by
  rw [take_gt h0 h1]; simp [tMade]
theorem tfold_len {text put : Bytes} : ∀ (l : List Cur) (m : Tmade), m.1.length ≤ (l.foldl (tStep text put) m).1.length
  | [], m => Nat.le_refl _
  | c :: r, m => by
    have := tfold_len (text := text) (put := put) r (tStep text put m c)
    simp only [List.foldl_cons]
    have e : m.1.length ≤ (tStep text put m c).1.length := by simp [tStep]
    omega
theorem tmade_mono {text put : Bytes} {l : List Cur} (k : Nat) : (tMade text put (l.take k)).1.length ≤ (tMade text put l).1.length := by
  conv => rhs; rw [← List.take_append_drop k l]
  unfold tMade
  rw [List.foldl_append]
  exact tfold_len _ _
theorem tmade_at {text put : Bytes} {l : List Cur} {i : Int} (h0 : 0 ≤ i) (h1 : i ≤ l.length) : (tMade text put (l.take i.toNat)).2.1 = if i = 0 then 0 else cHi (gt l (i - 1)) := by
  by_cases e : i = 0
  · subst e; simp [tMade]
  · rw [if_neg e]
    have := tmade_succ (text := text) (put := put) (l := l) (i := i - 1) (by omega) (by omega)
    rw [show i - 1 + 1 = i by omega] at this
    rw [this]; rfl
theorem tmade_out {text put : Bytes} {l : List Cur} : ∀ i : Nat, i ≤ l.length → (tMade text put (l.take i)).2.2.length = i
  | 0, _ => by simp [tMade]
  | i + 1, h => by
    have := tmade_succ (text := text) (put := put) (l := l) (i := (i : Int)) (by omega) (by omega)
    rw [show ((i : Int) + 1).toNat = i + 1 by omega, show ((i : Int)).toNat = i by omega] at this
    rw [this]
    have e := tmade_out (text := text) (put := put) (l := l) i (by omega)
    simp [tStep, e]
/-- The place reached lies before the next cursor and within the text. -/
theorem apart_at {text put : Bytes} {l : List Cur} (h : Apart text.length l) {i : Int} (h0 : 0 ≤ i) (h1 : i ≤ l.length) :
    0 ≤ (tMade text put (l.take i.toNat)).2.1 ∧ (tMade text put (l.take i.toNat)).2.1 ≤ text.length ∧ (i < l.length → (tMade text put (l.take i.toNat)).2.1 ≤ cLo (gt l i)) := by
  rw [tmade_at h0 h1]
  by_cases e : i = 0
  · subst e
    refine ⟨by simp, by simp, fun z => ?_⟩
    have := h 0 (by omega) z
    simpa using this.1
  · rw [if_neg e]
    obtain ⟨a, b, d⟩ := h (i - 1) (by omega) (by omega)
    have := lo_hi (gt l (i - 1))
    exact ⟨by omega, b, fun z => (h i h0 z).2.2 (by omega)⟩
def tGrown (put : Bytes) (l : List Cur) : Int := l.foldl (fun s c => s + (put.length - (cHi c - cLo c))) 0
theorem tgrown_succ {put : Bytes} {l : List Cur} {i : Int} (h0 : 0 ≤ i) (h1 : i < l.length) : tGrown put (l.take (i + 1).toNat) = tGrown put (l.take i.toNat) + (put.length - (cHi (gt l i) - cLo (gt l i))) := by
  rw [take_gt h0 h1]; simp [tGrown]
theorem tmade_len {text put : Bytes} {l : List Cur} (h : Apart text.length l) : ∀ i : Nat, i ≤ l.length → ((tMade text put (l.take i)).1.length : Int) = (tMade text put (l.take i)).2.1 + tGrown put (l.take i)
  | 0, _ => by simp [tMade, tGrown]
  | i + 1, q => by
    have e1 := tmade_succ (text := text) (put := put) (l := l) (i := (i : Int)) (by omega) (by omega)
    have e2 := tgrown_succ (put := put) (l := l) (i := (i : Int)) (by omega) (by omega)
    rw [show ((i : Int) + 1).toNat = i + 1 by omega, show ((i : Int)).toNat = i by omega] at e1 e2
    have e := tmade_len h (put := put) i (by omega)
    have a := apart_at (put := put) h (i := (i : Int)) (by omega) (by omega)
    rw [show ((i : Int)).toNat = i by omega] at a
    have b := h i (by omega) (by omega)
    have := lo_hi (gt l i)
    rw [e1, e2]
    simp only [tStep, List.length_append, List.length_drop, List.length_take]
    omega
theorem tgrown_bd {text put : Bytes} {l : List Cur} (h : Apart text.length l) : ∀ i : Nat, i ≤ l.length → -(i * text.length : Int) ≤ tGrown put (l.take i) ∧ tGrown put (l.take i) ≤ i * put.length
  | 0, _ => by simp [tGrown]
  | i + 1, q => by
    have e2 := tgrown_succ (put := put) (l := l) (i := (i : Int)) (by omega) (by omega)
    rw [show ((i : Int) + 1).toNat = i + 1 by omega, show ((i : Int)).toNat = i by omega] at e2
    have e := tgrown_bd h (put := put) i (by omega)
    have b := h i (by omega) (by omega)
    have := lo_hi (gt l i)
    rw [e2]
    push_cast
    rw [Int.add_mul, Int.add_mul]
    omega
theorem twhole_len {text put : Bytes} {l : List Cur} (h : Apart text.length l) : ((tWhole text put l).length : Int) = text.length + tGrown put l := by
  have e := tmade_len h (put := put) l.length (by omega)
  have a := apart_at (put := put) h (i := (l.length : Int)) (by omega) (by omega)
  rw [show ((l.length : Int)).toNat = l.length by omega] at a
  rw [List.take_length] at e a
  unfold tWhole
  rw [List.length_append, List.length_drop]
  omega
theorem twhole_big {text put : Bytes} {l : List Cur} {k : Nat} (h : 600 < (tMade text put (l.take k)).1.length) : 600 < (tWhole text put l).length := by
  have := tmade_mono (text := text) (put := put) (l := l) k
  unfold tWhole
  rw [List.length_append]
  omega
theorem type_a {text put : Bytes} {l : List Cur} (h : ¬ cursorsFault text.length l = 0) : cursorsType text l put = ([], [], cursorsFault text.length l) := by unfold cursorsType; rw [if_pos h]
theorem type_b {text put : Bytes} {l : List Cur} (h : cursorsFault text.length l = 0) (g : 600 < (tWhole text put (curNorm l)).length) : cursorsType text l put = ([], [], 1) := by
  unfold cursorsType; rw [if_neg (Classical.not_not.2 h), if_pos g]
theorem type_c {text put : Bytes} {l : List Cur} (h : cursorsFault text.length l = 0) (g : ¬ 600 < (tWhole text put (curNorm l)).length) : cursorsType text l put = (tWhole text put (curNorm l), (tMade text put (curNorm l)).2.2, 0) := by
  unfold cursorsType; rw [if_neg (Classical.not_not.2 h), if_neg g]
theorem type_few (text put : Bytes) (l : List Cur) : (cursorsType text l put).2.1.length ≤ 20 := by
  by_cases h : cursorsFault text.length l = 0
  · by_cases g : 600 < (tWhole text put (curNorm l)).length
    · rw [type_b h g]; simp
    · rw [type_c h g]
      have := norm_len l; have := (fault_ok h).1
      have e := tmade_out (text := text) (put := put) (l := curNorm l) (curNorm l).length (by omega)
      rw [List.take_length] at e
      simp only; omega
  · rw [type_a h]; simp
/-- The text before the cursors from `i` on are typed over, as the rule takes them: the last one first. -/
def TBack (text put : Bytes) (l : List Cur) (i : Int) (cur : Bytes) : Prop :=
  cur.take (tMade text put (l.take i.toNat)).2.1.toNat = text.take (tMade text put (l.take i.toNat)).2.1.toNat ∧
  (tMade text put (l.take i.toNat)).1 ++ cur.drop (tMade text put (l.take i.toNat)).2.1.toNat = tWhole text put l ∧
  (tMade text put (l.take i.toNat)).2.1 ≤ cur.length
theorem TBack.init {text put : Bytes} {l : List Cur} (h : Apart text.length l) : TBack text put l l.length text := by
  have a := apart_at (put := put) h (i := (l.length : Int)) (by omega) (by omega)
  refine ⟨rfl, ?_, a.2.1⟩
  rw [show ((l.length : Int)).toNat = l.length by omega, List.take_length]
  rfl
theorem TBack.fin {text put : Bytes} {l : List Cur} {i : Int} {cur : Bytes} (h : TBack text put l i cur) (h0 : i ≤ 0) : cur = tWhole text put l := by
  have e : i.toNat = 0 := by omega
  have := h.2.1
  rw [e] at this
  simpa [tMade] using this
theorem TBack.len {text put : Bytes} {l : List Cur} {i : Int} {cur : Bytes} (h : TBack text put l i cur) (a : Apart text.length l) (h0 : 0 ≤ i) (h1 : i ≤ l.length) : cur.length ≤ text.length + (tWhole text put l).length := by
  have e := congrArg List.length h.2.1
  have b := apart_at (put := put) a h0 h1
  rw [List.length_append, List.length_drop] at e
  omega
theorem TBack.step {text put : Bytes} {l : List Cur} {i : Int} {cur : Bytes} (h : TBack text put l (i + 1) cur) (a : Apart text.length l) (h0 : 0 ≤ i) (h1 : i < l.length) :
    TBack text put l i (cur.take (cLo (gt l i)).toNat ++ put ++ cur.drop (cHi (gt l i)).toNat) ∧ 0 ≤ cLo (gt l i) ∧ cLo (gt l i) ≤ cHi (gt l i) ∧ cHi (gt l i) ≤ cur.length := by
  have e := tmade_succ (text := text) (put := put) h0 h1
  have b := apart_at (put := put) a h0 (by omega)
  have d := a i h0 h1
  have m := lo_hi (gt l i)
  have e2 : (tMade text put (l.take (i + 1).toNat)).2.1 = cHi (gt l i) := by rw [e]; rfl
  obtain ⟨q1, q2, q3⟩ := h
  rw [e2] at q1 q2 q3
  refine ⟨⟨?_, ?_, ?_⟩, d.1, m, q3⟩
  · have t : (cur.take (cHi (gt l i)).toNat).take (tMade text put (l.take i.toNat)).2.1.toNat = (text.take (cHi (gt l i)).toNat).take (tMade text put (l.take i.toNat)).2.1.toNat := by rw [q1]
    rw [List.take_take, List.take_take, Nat.min_eq_left (by have := b.2.2 h1; omega)] at t
    rw [List.append_assoc, List.take_append_of_le_length (by rw [List.length_take]; have := b.2.2 h1; omega), List.take_take, Nat.min_eq_left (by have := b.2.2 h1; omega)]
    exact t
  · have t : (cur.take (cHi (gt l i)).toNat).take (cLo (gt l i)).toNat = (text.take (cHi (gt l i)).toNat).take (cLo (gt l i)).toNat := by rw [q1]
    rw [List.take_take, List.take_take, Nat.min_eq_left (by omega)] at t
    rw [List.append_assoc, List.drop_append_of_le_length (by rw [List.length_take]; have := b.2.2 h1; omega), t, ← q2, e]
    simp [tStep]
  · have := b.2.2 h1
    simp only [List.length_append, List.length_take, List.length_drop]; omega
theorem tmade_place {text put : Bytes} {l : List Cur} (a : Apart text.length l) {i : Int} (h0 : 0 ≤ i) (h1 : i < l.length) :
    (tMade text put (l.take (i + 1).toNat)).2.2 = (tMade text put (l.take i.toNat)).2.2 ++ [(cLo (gt l i) + (tGrown put (l.take i.toNat) + put.length), cLo (gt l i) + (tGrown put (l.take i.toNat) + put.length))] := by
  have e := tmade_succ (text := text) (put := put) h0 h1
  have e3 := tmade_len a (put := put) i.toNat (by omega)
  have b := apart_at (put := put) a h0 (by omega)
  have d := a i h0 h1
  have m := lo_hi (gt l i)
  have k := b.2.2 h1
  rw [e]
  have z : (((tMade text put (l.take i.toNat)).1 ++ ((text.take (cLo (gt l i)).toNat).drop (tMade text put (l.take i.toNat)).2.1.toNat ++ put)).length : Int) = cLo (gt l i) + (tGrown put (l.take i.toNat) + put.length) := by
    simp only [List.length_append, List.length_drop, List.length_take]; omega
  simp only [tStep, z]
end Go.Fu
