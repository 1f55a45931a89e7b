/-
  Many finds at once: what is found at each end, by all ends of what came.
-/
import Derived.Test.YtfelfimcnidplaaVpK
import Derived.Test.YtfelfimcnidplaaVpY
set_option linter.unusedVariables false
set_option linter.unusedSimpArgs false
namespace Go.Fu
open Go.Vc
abbrev tHit : Ty := .st (.cons tI (.cons tI .nil))
abbrev Hit := Int × Int
noncomputable section
def idxI (fs : List Bytes) (u : Bytes) : Int := (fs.idxOf u : Int)
/-- The finds that are ends of a text, the longest first. -/
def chain (fs : List Bytes) (e : Int) : Bytes → List Hit
  | [] => []
  | a :: x => (open Classical in if a :: x ∈ fs then [(e - ((a :: x).length : Int), idxI fs (a :: x))] else []) ++ chain fs e x
def manyAt (text : Bytes) (fs : List Bytes) (e : Nat) : List Hit := chain fs (e : Int) (text.take e)
def manyUp (text : Bytes) (fs : List Bytes) (n : Nat) : List Hit := (List.range n).flatMap fun i => manyAt text fs (i + 1)
def fmFault (text : Bytes) : List Bytes → List Bytes → Int
  | _, [] => 0
  | pre, s :: r => open Classical in if findFault text s ≠ 0 then findFault text s else if s ∈ pre then 4 else fmFault text (pre ++ [s]) r
def findMany (text : Bytes) (fs : List Bytes) : List Hit × Int :=
  if 600 < text.length ∨ 20 < fs.length then ([], 1) else if fmFault text [] fs ≠ 0 then ([], fmFault text [] fs) else (manyUp text fs text.length, 0)
abbrev fmPre (text : Bytes) (fs : List Bytes) : Prop := fitS text ∧ fitL fs ∧ ∀ f ∈ fs, fitS f
def find_Many_ct : Ct := ⟨tys2 .str (.sl .str), [.own tHit, .val tI], fun x => fmPre x.1 x.2, fun x => findMany x.1 x.2⟩
def ref_FindMany_ct : Ct := find_Many_ct
abbrev lsFit (l : List Bytes) : Prop := fitL l ∧ ∀ f ∈ l, fitS f
def indexS (l : List Bytes) (v : Bytes) : Int := open Classical in if v ∈ l then idxI l v else -1
def inS (l : List Bytes) (v : Bytes) : Bool := bo (v ∈ l)
def slices_Index___string_string__ct : Ct := ⟨tys2 (.sl .str) .str, [.val tI], fun x => lsFit x.1, fun x => indexS x.1 x.2⟩
def slices_Contains___string_string__ct : Ct := ⟨tys2 (.sl .str) .str, [.val .bool], fun x => lsFit x.1, fun x => inS x.1 x.2⟩
def find_Many_1_ct : Ct := ⟨tys2 tHit tHit, [.val tI], fun _ => True, fun x => cmpI x.1.1 x.2.1⟩
def law_FindManys_ct : Ct := ⟨tys2 .str (.sl .str), [.val .bool], fun x => fmPre x.1 x.2, fun _ => true⟩
end
theorem fm_step (text : Bytes) (fs : List Bytes) {x : Nat} (h : x < fs.length) : fmFault text (fs.take x) (fs.drop x) = open Classical in if findFault text fs[x] ≠ 0 then findFault text fs[x] else if fs[x] ∈ fs.take x then 4 else fmFault text (fs.take (x + 1)) (fs.drop (x + 1)) := by
  rw [List.drop_eq_getElem_cons h]
  conv => lhs; unfold fmFault
  rw [List.take_add_one, List.getElem?_eq_getElem h]; rfl
theorem fm_ok (text : Bytes) : ∀ (r pre : List Bytes), fmFault text pre r = 0 → pre.Nodup → (pre ++ r).Nodup ∧ ∀ f ∈ r, findFault text f = 0
  | [], pre, _, h => ⟨by simpa using h, fun f hf => by cases hf⟩
  | s :: r, pre, h, hn => by
    unfold fmFault at h
    split at h
    · rename_i q; exact absurd h q
    · rename_i q
      split at h
      · exact absurd h (by decide)
      · rename_i q2
        have hn2 : (pre ++ [s]).Nodup := List.nodup_append.2 ⟨hn, by simp, fun a ha b hb => by rintro rfl; simp only [List.mem_singleton] at hb; exact q2 (hb ▸ ha)⟩
        obtain ⟨h1, h2⟩ := fm_ok text r (pre ++ [s]) h hn2
        refine ⟨by simpa using h1, fun f hf => ?_⟩
        rcases List.mem_cons.1 hf with rfl | hf
        · exact Classical.byContradiction q
        · exact h2 f hf
theorem fm_all {text : Bytes} {fs : List Bytes} (h : fmFault text [] fs = 0) : fs.Nodup ∧ ∀ f ∈ fs, f.length ≤ 20 ∧ f ≠ [] := by
  obtain ⟨h1, h2⟩ := fm_ok text fs [] h List.nodup_nil
  exact ⟨by simpa using h1, fun f hf => by have := findFault_ok.1 (h2 f hf); exact ⟨this.2.1, this.2.2⟩⟩
theorem chain_long {fs : List Bytes} (hf : ∀ f ∈ fs, f.length ≤ 20) (e : Int) : ∀ (x : Bytes), chain fs e x = chain fs e (x.drop (x.length - 20))
  | [] => rfl
  | a :: x => by
    by_cases c : x.length + 1 ≤ 20
    · have : (a :: x).length - 20 = 0 := by simp only [List.length_cons]; omega
      rw [this]; rfl
    · have e1 : (a :: x).length - 20 = (x.length - 20) + 1 := by simp only [List.length_cons]; omega
      rw [e1, List.drop_succ_cons, ← chain_long hf e x]
      show (open Classical in if a :: x ∈ fs then [(e - ((a :: x).length : Int), idxI fs (a :: x))] else []) ++ chain fs e x = _
      rw [if_neg (fun q => by have := hf _ q; simp only [List.length_cons] at this; omega)]; rfl
theorem idx_of {fs : List Bytes} (hn : fs.Nodup) {j : Nat} (hj : j < fs.length) : idxI fs fs[j] = j := by
  unfold idxI
  rw [List.Nodup.idxOf_getElem hn]
/-! ### The ends that the machine knows -/
def isNd (fs : List Bytes) (u : Bytes) : Prop := u = [] ∨ ∃ f ∈ fs, u <+: f
noncomputable section
/-- The longest end of a text that begins a find. -/
def lsuf (fs : List Bytes) : Bytes → Bytes
  | [] => []
  | a :: x => open Classical in if isNd fs (a :: x) then a :: x else lsuf fs x
end
theorem isNd_nil (fs : List Bytes) : isNd fs [] := .inl rfl
theorem isNd_pre {fs : List Bytes} {u v : Bytes} (h : isNd fs v) (hp : u <+: v) : isNd fs u := by
  rcases h with h | ⟨f, hf, h⟩
  · subst h; exact .inl (by simpa using hp)
  · exact .inr ⟨f, hf, hp.trans h⟩
theorem isNd_mem {fs : List Bytes} {u : Bytes} (h : u ∈ fs) : isNd fs u := .inr ⟨u, h, List.prefix_refl _⟩
theorem lsuf_nd (fs : List Bytes) : ∀ x, isNd fs (lsuf fs x)
  | [] => .inl rfl
  | a :: x => by
    unfold lsuf; split
    · assumption
    · exact lsuf_nd fs x
theorem lsuf_len (fs : List Bytes) : ∀ x, (lsuf fs x).length ≤ x.length
  | [] => Nat.le_refl _
  | a :: x => by
    unfold lsuf; split
    · exact Nat.le_refl _
    · have := lsuf_len fs x; simp only [List.length_cons]; omega
theorem lsuf_self {fs : List Bytes} : ∀ {x : Bytes}, isNd fs x → lsuf fs x = x
  | [], _ => rfl
  | a :: x, h => by unfold lsuf; rw [if_pos h]
theorem lsuf_cons {fs : List Bytes} {a : UInt8} {x : Bytes} (h : ¬ isNd fs (a :: x)) : lsuf fs (a :: x) = lsuf fs x := by
  conv => lhs; unfold lsuf
  rw [if_neg h]
/-- One byte more. -/
theorem lsuf_snoc (fs : List Bytes) (b : UInt8) : ∀ y, lsuf fs (lsuf fs y ++ [b]) = lsuf fs (y ++ [b])
  | [] => rfl
  | a :: y => by
    by_cases h : isNd fs (a :: y)
    · rw [lsuf_self h]
    · rw [lsuf_cons h, lsuf_snoc fs b y]
      have h2 : ¬ isNd fs (a :: (y ++ [b])) := fun q => h (isNd_pre q ⟨[b], rfl⟩)
      exact (lsuf_cons h2).symm
theorem chain_lsuf (fs : List Bytes) (e : Int) : ∀ x, chain fs e (lsuf fs x) = chain fs e x
  | [] => rfl
  | a :: x => by
    by_cases h : isNd fs (a :: x)
    · rw [lsuf_self h]
    · rw [lsuf_cons h, chain_lsuf fs e x]
      show _ = (open Classical in if a :: x ∈ fs then [(e - ((a :: x).length : Int), idxI fs (a :: x))] else []) ++ chain fs e x
      rw [if_neg (fun q => h (isNd_mem q))]; rfl
/-- From one end to the next one. -/
theorem chain_back (fs : List Bytes) (e : Int) {a : UInt8} {x : Bytes} : chain fs e (a :: x) = (open Classical in if a :: x ∈ fs then [(e - ((a :: x).length : Int), idxI fs (a :: x))] else []) ++ chain fs e (lsuf fs x) := by
  rw [chain_lsuf]; rfl
theorem chain_asc (fs : List Bytes) (e : Int) : ∀ x, (chain fs e x).Pairwise (fun a b => a.1 < b.1) ∧ ∀ h ∈ chain fs e x, e - (x.length : Int) ≤ h.1
  | [] => ⟨.nil, fun h hh => by cases hh⟩
  | a :: x => by
    obtain ⟨h1, h2⟩ := chain_asc fs e x
    show List.Pairwise _ ((open Classical in if a :: x ∈ fs then [(e - ((a :: x).length : Int), idxI fs (a :: x))] else []) ++ chain fs e x) ∧ ∀ h ∈ (open Classical in if a :: x ∈ fs then [(e - ((a :: x).length : Int), idxI fs (a :: x))] else []) ++ chain fs e x, _
    simp only [List.length_cons]
    split
    · refine ⟨List.pairwise_cons.2 ⟨fun h hh => ?_, h1⟩, fun h hh => ?_⟩
      · have := h2 h hh; show e - _ < h.1; omega
      · rcases List.mem_cons.1 hh with rfl | hh
        · exact Int.le_refl _
        · have := h2 h hh; omega
    · exact ⟨h1, fun h hh => by have := h2 h hh; omega⟩
theorem chain_len (fs : List Bytes) (e : Int) : ∀ x, (chain fs e x).length ≤ x.length
  | [] => Nat.le_refl _
  | a :: x => by
    have := chain_len fs e x
    show ((open Classical in if a :: x ∈ fs then [(e - ((a :: x).length : Int), idxI fs (a :: x))] else []) ++ chain fs e x).length ≤ _
    rw [List.length_append]
    split <;> simp <;> omega
theorem manyUp_succ (text : Bytes) (fs : List Bytes) (n : Nat) : manyUp text fs (n + 1) = manyUp text fs n ++ manyAt text fs (n + 1) := by
  unfold manyUp; rw [List.range_succ, List.flatMap_append]; simp
theorem manyUp_len (text : Bytes) (fs : List Bytes) : ∀ (n : Nat), n ≤ 600 → (manyUp text fs n).length ≤ n * 600
  | 0, _ => by simp [manyUp]
  | n + 1, h => by
    have h1 := manyUp_len text fs n (by omega)
    have h2 := chain_len fs ((n + 1 : Nat) : Int) (text.take (n + 1))
    rw [List.length_take] at h2
    rw [manyUp_succ, List.length_append]
    unfold manyAt
    omega
end Go.Fu
