/-
  A history of a text: groups of edits that are undone and done again, and the line of texts that they go along.
-/
import Derived.Test.YteifemonokemgaaVpJ
set_option linter.unusedVariables false
set_option linter.unusedSimpArgs false
namespace Go.Fu
open Go.Vc
abbrev Group := List Edit × List Edit
structure HistS where
  text : Bytes
  undo : List Group
  redo : List Group
  opn : Bool
def trim20 (l : List Group) : List Group := if 20 < l.length then l.drop 1 else l
def lastG (l : List Group) : Group := l.getLastD ([], [])
def addLast (l : List Group) (x b : Edit) : List Group := l.dropLast ++ [((lastG l).1 ++ [x], (lastG l).2 ++ [b])]
def hOpen (h : HistS) : List Group := if h.opn = true then h.undo else trim20 (h.undo ++ [([], [])])
def hMake (h : HistS) (x : Edit) : HistS := ⟨editMade h.text x, addLast (hOpen h) x (editUndo h.text x), [], true⟩
def hUndo (h : HistS) : HistS := ⟨editLast h.text (lastG h.undo).2.reverse, h.undo.dropLast, h.redo ++ [lastG h.undo], false⟩
def hRedo (h : HistS) : HistS := ⟨editLast h.text (lastG h.redo).1, h.undo ++ [lastG h.redo], h.redo.dropLast, false⟩
abbrev Deed := Int × Edit
def hDeed (h : HistS) (d : Deed) : HistS × Int :=
  if d.1 = 1 then (if editFault h.text.length d.2 ≠ 0 then (h, editFault h.text.length d.2) else (hMake h d.2, 0))
  else if d.1 = 2 then (⟨h.text, h.undo, h.redo, false⟩, 0)
  else if d.1 = 3 then (if h.undo = [] then (h, 7) else (hUndo h, 0))
  else if d.1 = 4 then (if h.redo = [] then (h, 7) else (hRedo h, 0))
  else (h, 3)
/-- The edits by which a deed changes the text. -/
def hEdits (h : HistS) (d : Deed) : List Edit :=
  if d.1 = 1 then (if editFault h.text.length d.2 ≠ 0 then [] else [d.2])
  else if d.1 = 3 then (if h.undo = [] then [] else (lastG h.undo).2.reverse)
  else if d.1 = 4 then (if h.redo = [] then [] else (lastG h.redo).1) else []
def hEnd (h : HistS) (l : List Deed) : HistS := l.foldl (fun h d => (hDeed h d).1) h
def hTexts (h : HistS) : List Deed → List Bytes
  | [] => []
  | d :: l => (hDeed h d).1.text :: hTexts (hDeed h d).1 l
def hCodes (h : HistS) : List Deed → List Int
  | [] => []
  | d :: l => (hDeed h d).2 :: hCodes (hDeed h d).1 l
def hNew (s : Bytes) : HistS := ⟨s, [], [], false⟩
theorem hEnd_snoc (h : HistS) (l : List Deed) (d : Deed) : hEnd h (l ++ [d]) = (hDeed (hEnd h l) d).1 := by simp [hEnd]
theorem hTexts_snoc : ∀ (l : List Deed) (h : HistS) (d : Deed), hTexts h (l ++ [d]) = hTexts h l ++ [(hEnd h (l ++ [d])).text]
  | [], h, d => rfl
  | x :: l, h, d => by simp only [List.cons_append, hTexts]; rw [hTexts_snoc l _ d]; rfl
theorem hCodes_snoc : ∀ (l : List Deed) (h : HistS) (d : Deed), hCodes h (l ++ [d]) = hCodes h l ++ [(hDeed (hEnd h l) d).2]
  | [], h, d => rfl
  | x :: l, h, d => by simp only [List.cons_append, hCodes]; rw [hCodes_snoc l _ d]; rfl
theorem hTexts_len : ∀ (l : List Deed) (h : HistS), (hTexts h l).length = l.length
  | [], h => rfl
  | x :: l, h => by simp [hTexts, hTexts_len l]
theorem hCodes_len : ∀ (l : List Deed) (h : HistS), (hCodes h l).length = l.length
  | [], h => rfl
  | x :: l, h => by simp [hCodes, hCodes_len l]
/-! ### Edits in a row -/
theorem made_undo {s : Bytes} {e : Edit} (h : editMay s.length e) : editMade (editMade s e) (editUndo s e) = s ∧ editMay (editMade s e).length (editUndo s e) := by
  have hl := editMade_len h
  have m := editMay_iff.1 h
  have d1 : ((s.take (e.1 + e.2.1).toNat).drop e.1.toNat).length = e.2.1.toNat := by simp only [List.length_drop, List.length_take]; omega
  refine ⟨?_, ?_⟩
  · unfold editMade editUndo
    simp only
    have t1 : (s.take e.1.toNat ++ e.2.2 ++ s.drop (e.1 + e.2.1).toNat).take e.1.toNat = s.take e.1.toNat := by
      rw [List.append_assoc, List.take_append_of_le_length (by simp; omega), List.take_of_length_le (by simp; omega)]
    have t2 : (s.take e.1.toNat ++ e.2.2 ++ s.drop (e.1 + e.2.1).toNat).drop (e.1 + (e.2.2.length : Int)).toNat = s.drop (e.1 + e.2.1).toNat := by
      rw [List.drop_append_of_le_length (by simp; omega), List.drop_of_length_le (by simp; omega), List.nil_append]
    rw [t1, t2]
    have t3 : s.take e.1.toNat ++ (s.take (e.1 + e.2.1).toNat).drop e.1.toNat = s.take (e.1 + e.2.1).toNat := by
      have := List.take_append_drop e.1.toNat (s.take (e.1 + e.2.1).toNat)
      rw [List.take_take, show min e.1.toNat (e.1 + e.2.1).toNat = e.1.toNat by omega] at this
      exact this
    rw [t3, List.take_append_drop]
  · rw [editMay_iff]
    unfold editUndo
    simp only [d1]
    omega
theorem editCode_cons {n : Int} {e : Edit} {l : List Edit} : editCode n (e :: l) = 0 ↔ editMay n e ∧ editCode (n - e.2.1 + e.2.2.length) l = 0 := by
  simp only [editCode, editMay]
  constructor
  · intro h
    split at h
    · rename_i c; exact absurd h c
    · rename_i c; exact ⟨Classical.byContradiction c, h⟩
  · rintro ⟨a, b⟩
    rw [if_neg (by simpa using a)]; exact b
theorem editCode_snoc {e : Edit} : ∀ {l : List Edit} {s : Bytes}, editCode s.length (l ++ [e]) = 0 ↔ editCode s.length l = 0 ∧ editMay (editLast s l).length e
  | [], s => by rw [List.nil_append, editCode_cons]; simp [editLast, editCode]
  | x :: l, s => by
    rw [List.cons_append, editCode_cons, editCode_cons]
    simp only [editLast]
    constructor
    · rintro ⟨a, b⟩
      rw [← editMade_len a] at b
      rw [← editMade_len a]
      have := (editCode_snoc (e := e) (l := l) (s := editMade s x)).1 b
      exact ⟨⟨a, this.1⟩, this.2⟩
    · rintro ⟨⟨a, b⟩, c⟩
      rw [← editMade_len a] at b
      rw [← editMade_len a]
      exact ⟨a, editCode_snoc.2 ⟨b, c⟩⟩
theorem editLast_len : ∀ {l : List Edit} {s : Bytes}, editCode s.length l = 0 → s.length ≤ 600 → (editLast s l).length ≤ 600
  | [], s, _, h => h
  | x :: l, s, h, hs => by
    obtain ⟨a, b⟩ := editCode_cons.1 h
    rw [← editMade_len a] at b
    have := editMay_iff.1 a
    have := editMade_len a
    exact editLast_len (l := l) (s := editMade s x) b (by omega)
/-! ### The line of texts -/
def pastR (t : Bytes) : List Group → List Bytes
  | [] => []
  | g :: gs => editLast t g.2.reverse :: pastR (editLast t g.2.reverse) gs
def futR (t : Bytes) : List Group → List Bytes
  | [] => []
  | g :: gs => editLast t g.1 :: futR (editLast t g.1) gs
def okP (t : Bytes) : List Group → Prop
  | [] => True
  | g :: gs => editCode t.length g.2.reverse = 0 ∧ editCode (editLast t g.2.reverse).length g.1 = 0 ∧ editLast (editLast t g.2.reverse) g.1 = t ∧ okP (editLast t g.2.reverse) gs
def okF (t : Bytes) : List Group → Prop
  | [] => True
  | g :: gs => editCode t.length g.1 = 0 ∧ editCode (editLast t g.1).length g.2.reverse = 0 ∧ editLast (editLast t g.1) g.2.reverse = t ∧ okF (editLast t g.1) gs
def pastL (h : HistS) : List Bytes := (pastR h.text h.undo.reverse).reverse
def futL (h : HistS) : List Bytes := futR h.text h.redo.reverse
def lineOf (h : HistS) : List Bytes := pastL h ++ h.text :: futL h
structure HInv (n : Nat) (h : HistS) : Prop where
  past : okP h.text h.undo.reverse
  fut : okF h.text h.redo.reverse
  len : h.text.length ≤ 600
  opn : h.opn = true → h.undo ≠ []
  all : h.undo.length + h.redo.length ≤ 20
  grp : ∀ g ∈ h.undo ++ h.redo, g.1.length ≤ n ∧ g.2.length ≤ n
theorem pastR_len : ∀ (l : List Group) (t : Bytes), (pastR t l).length = l.length
  | [], _ => rfl
  | g :: l, t => by simp [pastR, pastR_len l]
theorem futR_len : ∀ (l : List Group) (t : Bytes), (futR t l).length = l.length
  | [], _ => rfl
  | g :: l, t => by simp [futR, futR_len l]
theorem pastL_len (h : HistS) : (pastL h).length = h.undo.length := by simp [pastL, pastR_len]
theorem futL_len (h : HistS) : (futL h).length = h.redo.length := by simp [futL, futR_len]
theorem lineOf_len (h : HistS) : (lineOf h).length = h.undo.length + 1 + h.redo.length := by simp [lineOf, pastL_len, futL_len]; omega
theorem pastR_dropLast : ∀ (l : List Group) (t : Bytes), pastR t l.dropLast = (pastR t l).dropLast
  | [], _ => rfl
  | [g], _ => rfl
  | g :: g' :: l, t => by
    have := pastR_dropLast (g' :: l) (editLast t g.2.reverse)
    simp only [List.dropLast_cons_cons, pastR] at this ⊢
    rw [this]
theorem okP_dropLast : ∀ (l : List Group) (t : Bytes), okP t l → okP t l.dropLast
  | [], _, h => h
  | [g], _, h => trivial
  | g :: g' :: l, t, h => by
    have := okP_dropLast (g' :: l) _ h.2.2.2
    exact ⟨h.1, h.2.1, h.2.2.1, this⟩
theorem split_last {l : List Group} (h : l ≠ []) : l = l.dropLast ++ [lastG l] := by
  unfold lastG
  have := List.dropLast_concat_getLast h
  rw [List.getLastD_eq_getLast?, List.getLast?_eq_some_getLast h]
  exact this.symm
theorem lastG_snoc (l : List Group) (g : Group) : lastG (l ++ [g]) = g := by simp [lastG]
theorem last_mem {l : List Group} (h : l ≠ []) : lastG l ∈ l := by
  have := List.mem_append_right l.dropLast (List.mem_singleton.2 rfl : lastG l ∈ [lastG l])
  rwa [← split_last h] at this
theorem HInv.new {s : Bytes} (h : s.length ≤ 600) : HInv 0 (hNew s) := ⟨trivial, trivial, h, by simp [hNew], by simp [hNew], by simp [hNew]⟩
theorem line_new (s : Bytes) : lineOf (hNew s) = [s] := rfl
theorem addLast_trim (l : List Group) (g : Group) (x b : Edit) : addLast (trim20 (l ++ [g])) x b = trim20 (l ++ [(g.1 ++ [x], g.2 ++ [b])]) := by
  unfold trim20
  by_cases h : 20 < (l ++ [g]).length
  · rw [if_pos h, if_pos (by simpa using h)]
    match l, h with
    | [], h => simp at h
    | a :: l, _ => simp [addLast, lastG_snoc]
  · rw [if_neg h, if_neg (by simpa using h)]
    simp [addLast, lastG_snoc]
/-- The past behind an edit. -/
theorem make_past {n : Nat} {h : HistS} {x : Edit} (i : HInv n h) (hx : editMay h.text.length x) :
    (h.opn = true → okP (hMake h x).text (hMake h x).undo.reverse ∧ pastL (hMake h x) = pastL h ∧ (hMake h x).undo.length = h.undo.length) ∧
    (h.opn = false → okP (hMake h x).text (hMake h x).undo.reverse ∧ pastL (hMake h x) = (if 20 < h.undo.length + 1 then (pastL h ++ [h.text]).drop 1 else pastL h ++ [h.text]) ∧ (hMake h x).undo.length = (if 20 < h.undo.length + 1 then h.undo.length else h.undo.length + 1)) := by
  obtain ⟨mu, mm⟩ := made_undo hx
  constructor
  · intro ho
    have hn := i.opn ho
    have hs := split_last hn
    have e1 : (hMake h x).undo = h.undo.dropLast ++ [((lastG h.undo).1 ++ [x], (lastG h.undo).2 ++ [editUndo h.text x])] := by
      simp only [hMake, hOpen, ho, if_true, addLast]
    have e2 : (hMake h x).undo.reverse = ((lastG h.undo).1 ++ [x], (lastG h.undo).2 ++ [editUndo h.text x]) :: h.undo.dropLast.reverse := by rw [e1]; simp
    have e3 : h.undo.reverse = lastG h.undo :: h.undo.dropLast.reverse := by
      conv => lhs; rw [hs]
      simp
    have p := i.past
    rw [e3] at p
    have e4 : editLast (editMade h.text x) ((lastG h.undo).2 ++ [editUndo h.text x]).reverse = editLast h.text (lastG h.undo).2.reverse := by
      simp [editLast, mu]
    refine ⟨?_, ?_, ?_⟩
    · rw [e2]
      show okP (editMade h.text x) _
      refine ⟨?_, ?_, ?_, ?_⟩
      · simp only [List.reverse_append, List.reverse_cons, List.reverse_nil, List.nil_append, List.singleton_append]
        rw [editCode_cons, ← editMade_len mm, mu]
        exact ⟨mm, p.1⟩
      · simp only [e4]
        rw [editCode_snoc]
        refine ⟨p.2.1, ?_⟩
        rw [p.2.2.1]; exact hx
      · simp only [e4]
        rw [editLast_snoc, p.2.2.1]
      · simp only [e4]; exact p.2.2.2
    · unfold pastL
      rw [e2, e3]
      simp only [pastR, hMake]
      rw [e4]
    · rw [e1]; conv => rhs; rw [hs]
      simp
  · intro ho
    have e1 : (hMake h x).undo = trim20 (h.undo ++ [([x], [editUndo h.text x])]) := by
      simp only [hMake, hOpen, ho]
      rw [if_neg (by simp), addLast_trim]; rfl
    have full : okP (editMade h.text x) (h.undo ++ [([x], [editUndo h.text x])]).reverse ∧ (pastR (editMade h.text x) (h.undo ++ [([x], [editUndo h.text x])]).reverse) = h.text :: pastR h.text h.undo.reverse := by
      simp only [List.reverse_append, List.reverse_cons, List.reverse_nil, List.nil_append, List.singleton_append]
      have e4 : editLast (editMade h.text x) [editUndo h.text x] = h.text := by simp [editLast, mu]
      refine ⟨⟨?_, ?_, ?_, ?_⟩, ?_⟩
      · simp only [List.reverse_cons, List.reverse_nil, List.nil_append]
        rw [editCode_cons]; exact ⟨mm, rfl⟩
      · simp only [List.reverse_cons, List.reverse_nil, List.nil_append, e4]
        rw [editCode_cons]; exact ⟨hx, rfl⟩
      · simp only [List.reverse_cons, List.reverse_nil, List.nil_append, e4]; rfl
      · simp only [List.reverse_cons, List.reverse_nil, List.nil_append, e4]; exact i.past
      · simp only [pastR, List.reverse_cons, List.reverse_nil, List.nil_append, e4]
    have pl : (pastR (editMade h.text x) (h.undo ++ [([x], [editUndo h.text x])]).reverse).reverse = pastL h ++ [h.text] := by rw [full.2]; simp [pastL]
    unfold pastL at pl ⊢
    rw [e1]
    unfold trim20
    simp only [List.length_append, List.length_singleton]
    by_cases hc : 20 < h.undo.length + 1
    · rw [if_pos hc, if_pos hc, if_pos hc]
      have rd : ((h.undo ++ [([x], [editUndo h.text x])]).drop 1).reverse = (h.undo ++ [([x], [editUndo h.text x])]).reverse.dropLast := by
        rw [List.dropLast_reverse]; simp
      refine ⟨?_, ?_, ?_⟩
      · rw [rd]; exact okP_dropLast _ _ full.1
      · rw [rd]
        show (pastR (editMade h.text x) _).reverse = _
        rw [pastR_dropLast, ← pl]
        simp [List.tail_reverse]
      · simp
    · rw [if_neg hc, if_neg hc, if_neg hc]
      exact ⟨full.1, pl, by simp⟩
theorem HInv.make {n : Nat} {h : HistS} {x : Edit} (i : HInv n h) (hx : editMay h.text.length x) : HInv (n + 1) (hMake h x) := by
  obtain ⟨p1, p2⟩ := make_past i hx
  have ml := editMade_len hx
  have m := editMay_iff.1 hx
  have hp : okP (hMake h x).text (hMake h x).undo.reverse := by
    cases ho : h.opn
    · exact (p2 ho).1
    · exact (p1 ho).1
  have hl : (hMake h x).undo.length ≤ 20 := by
    have := i.all
    cases ho : h.opn
    · rw [(p2 ho).2.2]; split <;> omega
    · rw [(p1 ho).2.2]; omega
  refine ⟨hp, trivial, by show (editMade h.text x).length ≤ 600; omega, fun _ => by show addLast _ _ _ ≠ []; simp [addLast], by show (hMake h x).undo.length + 0 ≤ 20; omega, fun g hg => ?_⟩
  have hg : g ∈ addLast (hOpen h) x (editUndo h.text x) := by simpa [hMake] using hg
  have old : ∀ g ∈ hOpen h, g.1.length ≤ n ∧ g.2.length ≤ n := fun g hg => by
    unfold hOpen at hg
    split at hg
    · exact i.grp g (List.mem_append_left _ hg)
    · have : g ∈ h.undo ++ [([], [])] := by
        unfold trim20 at hg
        split at hg
        · exact List.mem_of_mem_drop hg
        · exact hg
      simp at this
      rcases this with this | rfl
      · exact i.grp g (List.mem_append_left _ this)
      · simp
  unfold addLast at hg
  simp only [List.mem_append, List.mem_singleton] at hg
  rcases hg with hg | rfl
  · have := old g (List.dropLast_subset _ hg); omega
  · by_cases hn : hOpen h = []
    · rw [hn]; simp [lastG]
    · have := old (lastG (hOpen h)) (by rw [split_last hn, lastG_snoc]; simp)
      simp only [List.length_append, List.length_singleton]; omega
theorem line_make {n : Nat} {h : HistS} {x : Edit} (i : HInv n h) (hx : editMay h.text.length x) :
    lineOf (hMake h x) = pastL (hMake h x) ++ [editMade h.text x] := rfl
theorem HInv.undo_ {n : Nat} {h : HistS} (i : HInv n h) (hn : h.undo ≠ []) : HInv n (hUndo h) ∧ lineOf (hUndo h) = lineOf h ∧ (hUndo h).undo.length + 1 = h.undo.length := by
  have hs := split_last hn
  have e3 : h.undo.reverse = lastG h.undo :: h.undo.dropLast.reverse := by
    conv => lhs; rw [hs]
    simp
  have p := i.past
  rw [e3] at p
  have e5 : (h.redo ++ [lastG h.undo]).reverse = lastG h.undo :: h.redo.reverse := by simp
  have ll : h.undo.dropLast.length + 1 = h.undo.length := by conv => rhs; rw [hs]
                                                             simp
  refine ⟨⟨p.2.2.2, ?_, editLast_len p.1 i.len, by simp [hUndo], ?_, fun g hg => i.grp g ?_⟩, ?_, ll⟩
  · show okF (editLast h.text (lastG h.undo).2.reverse) (h.redo ++ [lastG h.undo]).reverse
    rw [e5]
    refine ⟨p.2.1, ?_, ?_, ?_⟩
    · rw [p.2.2.1]; exact p.1
    · rw [p.2.2.1]
    · rw [p.2.2.1]; exact i.fut
  · have := i.all
    show h.undo.dropLast.length + (h.redo ++ [lastG h.undo]).length ≤ 20
    simp only [List.length_append, List.length_singleton]; omega
  · have hg : g ∈ h.undo.dropLast ++ (h.redo ++ [lastG h.undo]) := hg
    simp only [List.mem_append, List.mem_singleton] at hg ⊢
    rcases hg with hg | hg | rfl
    · exact .inl (List.dropLast_subset _ hg)
    · exact .inr hg
    · left; exact last_mem hn
  · unfold lineOf pastL futL
    show (pastR (editLast h.text (lastG h.undo).2.reverse) h.undo.dropLast.reverse).reverse ++ editLast h.text (lastG h.undo).2.reverse :: futR (editLast h.text (lastG h.undo).2.reverse) (h.redo ++ [lastG h.undo]).reverse = _
    rw [e5, e3]
    simp only [pastR, futR, List.reverse_cons, List.append_assoc, List.singleton_append]
    rw [p.2.2.1]
theorem HInv.redo_ {n : Nat} {h : HistS} (i : HInv n h) (hn : h.redo ≠ []) : HInv n (hRedo h) ∧ lineOf (hRedo h) = lineOf h ∧ (hRedo h).undo.length = h.undo.length + 1 := by
  have hs := split_last hn
  have e3 : h.redo.reverse = lastG h.redo :: h.redo.dropLast.reverse := by
    conv => lhs; rw [hs]
    simp
  have p := i.fut
  rw [e3] at p
  have e5 : (h.undo ++ [lastG h.redo]).reverse = lastG h.redo :: h.undo.reverse := by simp
  have ll : h.redo.dropLast.length + 1 = h.redo.length := by conv => rhs; rw [hs]
                                                             simp
  refine ⟨⟨?_, p.2.2.2, editLast_len p.1 i.len, by simp [hRedo], ?_, fun g hg => i.grp g ?_⟩, ?_, by simp [hRedo]⟩
  · show okP (editLast h.text (lastG h.redo).1) (h.undo ++ [lastG h.redo]).reverse
    rw [e5]
    refine ⟨p.2.1, ?_, ?_, ?_⟩
    · rw [p.2.2.1]; exact p.1
    · rw [p.2.2.1]
    · rw [p.2.2.1]; exact i.past
  · have := i.all
    show (h.undo ++ [lastG h.redo]).length + h.redo.dropLast.length ≤ 20
    simp only [List.length_append, List.length_singleton]; omega
  · have hg : g ∈ (h.undo ++ [lastG h.redo]) ++ h.redo.dropLast := hg
    simp only [List.mem_append, List.mem_singleton] at hg ⊢
    rcases hg with (hg | rfl) | hg
    · exact .inl hg
    · right; exact last_mem hn
    · exact .inr (List.dropLast_subset _ hg)
  · unfold lineOf pastL futL
    show (pastR (editLast h.text (lastG h.redo).1) (h.undo ++ [lastG h.redo]).reverse).reverse ++ editLast h.text (lastG h.redo).1 :: futR (editLast h.text (lastG h.redo).1) h.redo.dropLast.reverse = _
    rw [e5, e3]
    simp only [pastR, futR, List.reverse_cons, List.append_assoc, List.singleton_append]
    rw [p.2.2.1]
theorem HInv.more {n : Nat} {h : HistS} (i : HInv n h) : HInv (n + 1) h := ⟨i.past, i.fut, i.len, i.opn, i.all, fun g hg => by have := i.grp g hg; omega⟩
theorem HInv.deed {n : Nat} {h : HistS} (i : HInv n h) (d : Deed) : HInv (n + 1) (hDeed h d).1 := by
  unfold hDeed
  split
  · split
    · exact i.more
    · rename_i c; exact i.make (Classical.byContradiction c)
  · split
    · exact ⟨i.past, i.fut, i.len, by simp, i.all, i.more.grp⟩
    · split
      · split
        · exact i.more
        · rename_i c; exact (i.undo_ c).1.more
      · split
        · split
          · exact i.more
          · rename_i c; exact (i.redo_ c).1.more
        · exact i.more
theorem HInv.run {s : Bytes} (h : s.length ≤ 600) (l : List Deed) : HInv l.length (hEnd (hNew s) l) := by
  have : ∀ (l : List Deed) (n : Nat) (h : HistS), HInv n h → HInv (n + l.length) (hEnd h l) := by
    intro l
    induction l with
    | nil => intro n h i; exact i
    | cons d l ih =>
      intro n h i
      have := ih (n + 1) _ (i.deed d)
      rw [show n + (d :: l).length = n + 1 + l.length by simp; omega]
      exact this
  have := this l 0 _ (HInv.new h)
  rwa [Nat.zero_add] at this
noncomputable section
abbrev tDeedH : Ty := .st (.cons tI (.cons tEdit .nil))
abbrev deedsFit (l : List Deed) : Prop := fitL l ∧ ∀ d ∈ l, editFits d.2
abbrev histPre (s : Bytes) (l : List Deed) : Prop := fitS s ∧ deedsFit l
def histBig (s : Bytes) (l : List Deed) : Prop := 600 < s.length ∨ 80 < l.length
def histPlay (s : Bytes) (l : List Deed) : List Bytes × List Int × Int := iteP (histBig s l) ([], [], 1) (hTexts (hNew s) l, hCodes (hNew s) l, 0)
def histCounts (s : Bytes) (l : List Deed) : Int × Int × Int := iteP (histBig s l) (0, 0, 1) ((hEnd (hNew s) l).undo.length, (hEnd (hNew s) l).redo.length, 0)
def law_sameCodes_ct : Ct := law_sameInts_ct
def hist_Play_ct : Ct := ⟨tys2 .str (.sl tDeedH), [.own .str, .own tI, .val tI], fun x => histPre x.1 x.2, fun x => histPlay x.1 x.2⟩
def hist_Counts_ct : Ct := ⟨tys2 .str (.sl tDeedH), [.val tI, .val tI, .val tI], fun x => histPre x.1 x.2, fun x => histCounts x.1 x.2⟩
def ref_HistPlayed_ct : Ct := ⟨tys2 .str (.sl tDeedH), [.own .str, .own tI, .val tI, .val tI, .val tI], fun x => histPre x.1 x.2, fun x => ((histPlay x.1 x.2).1, (histPlay x.1 x.2).2.1, (histCounts x.1 x.2).1, (histCounts x.1 x.2).2.1, (histPlay x.1 x.2).2.2)⟩
end
theorem hist_pre {s : Bytes} {l : List Deed} (h : s.length.le 140737488351232 ∧ l.length ≤ 140737488351232 ∧ ∀ x : Int × Int × Int × List UInt8, List.Mem x l → (IntKind.i64.min ≤ x.1 ∧ x.1 ≤ IntKind.i64.max) ∧ (IntKind.i64.min ≤ x.2.1 ∧ x.2.1 ≤ IntKind.i64.max) ∧ (IntKind.i64.min ≤ x.2.2.1 ∧ x.2.2.1 ≤ IntKind.i64.max) ∧ x.2.2.2.length.le 140737488351232) : histPre s l :=
  ⟨h.1, h.2.1, fun d hd => ⟨(h.2.2 d hd).2.1, (h.2.2 d hd).2.2.1, (h.2.2 d hd).2.2.2⟩⟩
theorem hist_len {s : Bytes} {l : List Deed} (h : histPre s l) : fitL (histPlay s l).1 ∧ fitL (histPlay s l).2.1 := by
  have hl : l.length ≤ 140737488351232 := h.2.1
  unfold histPlay iteP fitL
  split
  · simp
  · simp only [hTexts_len, hCodes_len]; exact ⟨hl, hl⟩
theorem hist_code (s : Bytes) (l : List Deed) : (histCounts s l).2.2 = (histPlay s l).2.2 := by
  unfold histCounts histPlay iteP
  split <;> rfl
end Go.Fu
