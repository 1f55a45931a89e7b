/-
  Typing at all places where a text stands, apart from each other, makes what replacing makes.
-/
import Derived.Test.YtkemhbclkglmbaaVpCD
import Derived.Test.YtkemhbclkglmbaaVpRE
set_option linter.unusedVariables false
set_option linter.unusedSimpArgs false
namespace Go.Fu
open Go.Vc
noncomputable section
abbrev pickPre (x : Int × Int) : Prop := inI64 x.1 ∧ 0 < x.2 ∧ x.2 ≤ 1000000
def pickOf (a n : Int) : Int := a % n
def keep_Picked_ct : Ct := ⟨tys2 tI tI, [.val tI], fun x => pickPre x, fun x => pickOf x.1 x.2⟩
def fewByte (x : Int) : UInt8 := if x % 2 = 0 then 97 else 98
def fewOf (l : List Int) (n : Int) : Bytes := (l.take n.toNat).map fewByte
abbrev fewPre (x : List Int × Int) : Prop := (∀ i ∈ x.1, inI64 i) ∧ 0 ≤ x.2 ∧ x.2 ≤ 1000
def keep_Few_ct : Ct := ⟨tys2 (.sl tI) tI, [.val .str], fun x => fewPre x, fun x => fewOf x.1 x.2⟩
/-- Cursors over the places that lie apart, and where the last one ends. -/
abbrev Gcur := List Cur × Int
def gStep (fl : Int) (g : Gcur) (i : Int) : Gcur := if g.2 ≤ i then (g.1 ++ [(i, i + fl)], i + fl) else g
def gCur (fl : Int) (x : List Int) : Gcur := x.foldl (gStep fl) ([], 0)
end
theorem few_len (l : List Int) (n : Int) : (fewOf l n).length ≤ n.toNat := by
  unfold fewOf; rw [List.length_map, List.length_take]; omega
theorem few_succ {l : List Int} {i : Int} (h0 : 0 ≤ i) (h1 : i < l.length) : fewOf l (i + 1) = fewOf l i ++ [fewByte (gt l i)] := by
  unfold fewOf; rw [take_gt h0 h1]; simp
theorem few_one (x : Int) : gt [[(97 : UInt8)], [98]] (pickOf x 2) = [fewByte x] := by
  unfold fewByte pickOf
  rcases (show x % 2 = 0 ∨ x % 2 = 1 by omega) with h | h
  · rw [h, if_pos rfl]; rfl
  · rw [h, if_neg (by decide)]; rfl
theorem gcur_succ {fl : Int} {x : List Int} {i : Int} (h0 : 0 ≤ i) (h1 : i < x.length) : gCur fl (x.take (i + 1).toNat) = gStep fl (gCur fl (x.take i.toNat)) (gt x i) := by
  rw [take_gt h0 h1]; simp [gCur]
/-- Each lies in the text, none is bare, each ends ahead of the next one. -/
structure Gok (size fl : Int) (g : Gcur) : Prop where
  each : ∀ c ∈ g.1, 0 ≤ c.1 ∧ c.2 = c.1 + fl ∧ c.2 ≤ size ∧ c.2 ≤ g.2
  apart : g.1.Pairwise fun a b => a.2 ≤ b.1
theorem gok_fold {size fl : Int} : ∀ (x : List Int) (g : Gcur), (∀ i ∈ x, 0 ≤ i ∧ i + fl ≤ size) → 0 ≤ fl → Gok size fl g → Gok size fl (x.foldl (gStep fl) g)
  | [], g, _, _, h => h
  | i :: r, g, hx, hf, h => by
    refine gok_fold r _ (fun j hj => hx j (by simp [hj])) hf ?_
    have hi := hx i (by simp)
    unfold gStep
    split
    · rename_i q
      refine ⟨fun c hc => ?_, ?_⟩
      · simp only [List.mem_append, List.mem_singleton] at hc
        rcases hc with hc | rfl
        · obtain ⟨a, b, d, e⟩ := h.each c hc
          exact ⟨a, b, d, by simp only; omega⟩
        · exact ⟨hi.1, rfl, hi.2, Int.le_refl _⟩
      · simp only
        rw [List.pairwise_append]
        refine ⟨h.apart, by simp, fun a ha b hb => ?_⟩
        simp only [List.mem_singleton] at hb
        subst hb
        have := (h.each a ha).2.2.2
        simp only; omega
    · exact h
theorem gcur_ok {size fl : Int} {x : List Int} (hx : ∀ i ∈ x, 0 ≤ i ∧ i + fl ≤ size) (hf : 0 ≤ fl) : Gok size fl (gCur fl x) :=
  gok_fold x ([], 0) hx hf ⟨fun c hc => by simp at hc, .nil⟩
/-- What typing and replacing make so far is the same. -/
theorem same_fold {text put : Bytes} {fl : Int} (hf : 0 ≤ fl) : ∀ (x : List Int) (g : Gcur) (m : Rmade) (t : Tmade), g.2 = m.2.1 → (g.1.length : Int) = m.2.2 → t.1 = m.1 → t.2.1 = m.2.1 → t.2.2.length = g.1.length → g.1.foldl (tStep text put) ([], 0, []) = t →
    ((x.foldl (gStep fl) g).1.length : Int) = (x.foldl (rStep text put fl) m).2.2 ∧ (tMade text put (x.foldl (gStep fl) g).1).1 = (x.foldl (rStep text put fl) m).1 ∧ (tMade text put (x.foldl (gStep fl) g).1).2.1 = (x.foldl (rStep text put fl) m).2.1 ∧ (tMade text put (x.foldl (gStep fl) g).1).2.2.length = (x.foldl (gStep fl) g).1.length
  | [], g, m, t, h1, h2, h3, h4, h5, h6 => by
    simp only [List.foldl_nil, tMade, h6]
    exact ⟨h2, h3, h4, h5⟩
  | i :: r, g, m, t, h1, h2, h3, h4, h5, h6 => by
    simp only [List.foldl_cons]
    by_cases q : i < m.2.1
    · have e1 : gStep fl g i = g := by unfold gStep; rw [if_neg (by omega)]
      have e2 : rStep text put fl m i = m := by unfold rStep; rw [if_pos q]
      rw [e1, e2]
      exact same_fold hf r g m t h1 h2 h3 h4 h5 h6
    · have e1 : gStep fl g i = (g.1 ++ [(i, i + fl)], i + fl) := by unfold gStep; rw [if_pos (by omega)]
      have e2 : rStep text put fl m i = (m.1 ++ ((text.take i.toNat).drop m.2.1.toNat ++ put), i + fl, m.2.2 + 1) := by unfold rStep; rw [if_neg q]
      have lo : cLo (i, i + fl) = i := by unfold cLo; simp only; omega
      have hi : cHi (i, i + fl) = i + fl := by unfold cHi; simp only; omega
      rw [e1, e2]
      refine same_fold hf r _ _ (tStep text put t (i, i + fl)) rfl ?_ ?_ ?_ ?_ ?_
      · simp only [List.length_append, List.length_singleton]; omega
      · simp only [tStep, lo, h3, h4]
      · simp only [tStep, hi]
      · simp only [tStep, List.length_append, List.length_singleton, h5]
      · simp only [List.foldl_append, h6, List.foldl_cons, List.foldl_nil]
theorem same_made {text put : Bytes} {fl : Int} (hf : 0 ≤ fl) (x : List Int) : ((gCur fl x).1.length : Int) = (rMade text put fl x).2.2 ∧ (tMade text put (gCur fl x).1).1 = (rMade text put fl x).1 ∧ (tMade text put (gCur fl x).1).2.1 = (rMade text put fl x).2.1 ∧ (tMade text put (gCur fl x).1).2.2.length = (gCur fl x).1.length :=
  same_fold hf x ([], 0) ([], 0, 0) ([], 0, []) rfl rfl rfl rfl rfl rfl
/-- Cursors that lie apart are normal. -/
theorem fold_apart : ∀ (l out : List Cur), (out ++ l).Pairwise (fun a b => a.2 ≤ b.1) → (∀ c ∈ out ++ l, c.1 < c.2) → l.foldl curStep out = out ++ l
  | [], out, _, _ => by simp
  | c :: r, out, h, g => by
    simp only [List.foldl_cons]
    have st : curStep out c = out ++ [c] := step_neg fun ⟨p, q⟩ => by
      have ml : gt out ((out.length : Int) - 1) ∈ out := gt_mem (by omega) (by omega)
      have a := g _ (List.mem_append_left _ ml)
      have b := g c (by simp)
      have d := (List.pairwise_append.1 h).2.2 _ ml c (by simp)
      unfold curTouch cLo cHi at q
      omega
    rw [st, fold_apart r (out ++ [c]) (by simpa using h) (by simpa using g)]
    simp
theorem norm_apart {l : List Cur} (h : l.Pairwise fun a b => a.2 ≤ b.1) (g : ∀ c ∈ l, c.1 < c.2) : curNorm l = l := by
  have s : stab curLt l = l := stab_eq cur_swo (.refl l) (h.imp_of_mem fun {a b} ha hb hab q => by
    have ga := g a ha
    have gb := g b hb
    rw [curLt_iff] at q
    unfold cLo cHi at q
    omega)
  unfold curNorm
  rw [s]
  exact (fold_apart l [] (by simpa using h) (by simpa using g)).trans (by simp)
theorem rfold_size {text put : Bytes} {fl : Int} (hf : 0 ≤ fl) : ∀ (x : List Int) (m : Rmade), (∀ i ∈ x, 0 ≤ i ∧ i + fl ≤ text.length) → 0 ≤ m.2.1 → 0 ≤ m.2.2 → (m.1.length : Int) ≤ m.2.1 + m.2.2 * put.length →
    ((x.foldl (rStep text put fl) m).1.length : Int) ≤ (x.foldl (rStep text put fl) m).2.1 + (x.foldl (rStep text put fl) m).2.2 * put.length
  | [], m, _, _, _, h => h
  | i :: r, m, hx, h0, h1, h => by
    simp only [List.foldl_cons]
    have hi := hx i (by simp)
    have hr := fun j hj => hx j (List.mem_cons_of_mem _ hj)
    by_cases q : i < m.2.1
    · have e2 : rStep text put fl m i = m := by unfold rStep; rw [if_pos q]
      rw [e2]
      exact rfold_size hf r m hr h0 h1 h
    · have e2 : rStep text put fl m i = (m.1 ++ ((text.take i.toNat).drop m.2.1.toNat ++ put), i + fl, m.2.2 + 1) := by unfold rStep; rw [if_neg q]
      rw [e2]
      refine rfold_size hf r _ hr (by simp only; omega) (by simp only; omega) ?_
      simp only [List.length_append, List.length_drop, List.length_take]
      rw [Int.add_mul]
      omega
theorem one_type : cursorsType [98] [(0, 0)] [97] = ([97, 98], [(1, 1)], 0) := by
  have f : cursorsFault (([98] : Bytes).length : Int) [(0, 0)] = 0 := fault_d (by simp) (by simp) fun j j0 j1 => by
    have : j = 0 := by simp at j1; omega
    subst this
    exact ⟨by decide, by decide⟩
  have n : curNorm [(0, 0)] = [(0, 0)] := by
    have s : stab curLt [((0 : Int), (0 : Int))] = [(0, 0)] := stab_eq cur_swo (.refl _) (by simp [Srt])
    unfold curNorm
    rw [s]
    show curStep [] (0, 0) = _
    rw [step_neg (by simp)]; rfl
  have lo : cLo (0, 0) = 0 := by decide
  have hi : cHi (0, 0) = 0 := by decide
  have m : tMade [98] [97] [(0, 0)] = ([97], 0, [(1, 1)]) := by simp [tMade, tStep, lo, hi]
  have w : tWhole [98] [97] [(0, 0)] = [97, 98] := by unfold tWhole; rw [m]; rfl
  rw [type_c f (by rw [n, w]; simp), n, w, m]
/-- Typing at all places makes what replacing makes. -/
theorem type_same {s f p : Bytes} (hs : s.length ≤ 60) (f0 : 0 < f.length) (f1 : f.length ≤ 20) (hp : p.length ≤ 3) :
    findFault s f = 0 ∧ (findReplace s f p).2.2 = 0 ∧ ((gCur f.length (findAt s f)).1.length : Int) = (findReplace s f p).2.1 ∧
    (¬ 20 < (findReplace s f p).2.1 → (cursorsType s (gCur f.length (findAt s f)).1 p).2.2 = 0 ∧ (cursorsType s (gCur f.length (findAt s f)).1 p).1 = (findReplace s f p).1 ∧ ((cursorsType s (gCur f.length (findAt s f)).1 p).2.1.length : Int) = (findReplace s f p).2.1) := by
  have ff : findFault s f = 0 := by
    unfold findFault
    rw [if_neg (by omega), if_neg (fun e => by rw [e] at f0; simp at f0)]
  have hx : ∀ i ∈ findAt s f, 0 ≤ i ∧ i + f.length ≤ s.length := fun i hi => findAt_mem hi
  have hf : (0 : Int) ≤ f.length := by omega
  have ll := findAt_len s f
  have sz := rfold_size (text := s) (put := p) hf (findAt s f) ([], 0, 0) hx (by simp) (by simp) (by simp)
  have at_ := rmade_at (text := s) (put := p) hx hf (findAt s f).length
  rw [List.take_length] at at_
  have wl : ¬ 600 < (rWhole s p f.length (findAt s f)).length := by
    unfold rWhole
    rw [List.length_append, List.length_drop]
    have sz : ((rMade s p f.length (findAt s f)).1.length : Int) ≤ (rMade s p f.length (findAt s f)).2.1 + (rMade s p f.length (findAt s f)).2.2 * p.length := sz
    have : (rMade s p f.length (findAt s f)).2.2 * (p.length : Int) ≤ 60 * 3 := Int.mul_le_mul (by omega) (by omega) (by omega) (by omega)
    omega
  have rc := replace_c (put := p) ff wl
  obtain ⟨m1, m2, m3, m4⟩ := same_made (text := s) (put := p) hf (findAt s f)
  have gk := gcur_ok hx hf
  refine ⟨ff, by rw [rc], by rw [rc]; exact m1, fun hn => ?_⟩
  rw [rc] at hn
  simp only at hn
  have nm : curNorm (gCur f.length (findAt s f)).1 = (gCur f.length (findAt s f)).1 := norm_apart gk.apart fun c hc => by
    have := gk.each c hc; omega
  have fl : cursorsFault (s.length : Int) (gCur f.length (findAt s f)).1 = 0 := fault_d (by omega) (by omega) fun j j0 j1 => by
    have := gk.each _ (gt_mem j0 j1)
    unfold cLo cHi; omega
  have tw : tWhole s p (gCur f.length (findAt s f)).1 = rWhole s p f.length (findAt s f) := by
    unfold tWhole rWhole; rw [m2, m3]
  have tc := type_c (put := p) fl (by rw [nm, tw]; exact wl)
  rw [tc, rc, nm, tw]
  exact ⟨rfl, rfl, by simp only; rw [m4]; exact m1⟩
end Go.Fu
