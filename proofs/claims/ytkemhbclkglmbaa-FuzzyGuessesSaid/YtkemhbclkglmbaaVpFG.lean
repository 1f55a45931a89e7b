/-
  Guessing words: by how far they are, then by their bytes, then by their numbers.
-/
import Derived.Test.YtkemhbclkglmbaaVpSA
import Derived.Test.YtkemhbclkglmbaaVpZ
import Derived.Test.YtkemhbclkglmbaaVpS
set_option linter.unusedVariables false
set_option linter.unusedSimpArgs false
namespace Go.Fu
open Go.Vc
section
variable {α : Type} [Inhabited α]
theorem stab_few {α : Type} [Inhabited α] {lt : α → α → Prop} (hs : Swo lt) {ls : List α} (h : ls.length ≤ 1) : stab lt ls = ls :=
  stab_eq hs (.refl _) (by
    match ls, h with
    | [], _ => exact .nil
    | [a], _ => simp [Srt])
end
theorem less_flip : ∀ {a b : Bytes}, Op.bytesLess b a = true ↔ ¬ (Op.bytesLess a b = true ∨ a = b)
  | [], b => by cases b <;> simp [Op.bytesLess]
  | x :: a, [] => by simp [Op.bytesLess]
  | x :: a, y :: b => by
    have ih := less_flip (a := a) (b := b)
    simp only [Op.bytesLess, Bool.or_eq_true, decide_eq_true_eq, Bool.and_eq_true, beq_iff_eq, List.cons.injEq, ih, UInt8.lt_iff_toNat_lt]
    have e : x = y ↔ x.toNat = y.toNat := UInt8.toNat_inj.symm
    have e' : y = x ↔ y.toNat = x.toNat := UInt8.toNat_inj.symm
    rw [e, e']
    constructor
    · rintro (h | ⟨h, g⟩)
      · omega
      · rintro ((c | c) | c)
        · omega
        · exact g (.inl c.2)
        · exact g (.inr c.2)
    · intro h
      rcases Nat.lt_trichotomy x.toNat y.toNat with c | c | c
      · exact absurd (.inl (.inl c)) h
      · refine .inr ⟨c.symm, ?_⟩
        rintro (d | d)
        · exact h (.inl (.inr ⟨c, d⟩))
        · exact h (.inr ⟨c, d⟩)
      · exact .inl c
theorem less_lex : ∀ {a b : Bytes}, Op.bytesLess a b = true ↔ lexLt a b
  | [], [] => by simp [Op.bytesLess, lexLt]
  | [], _ :: _ => by simp [Op.bytesLess, lexLt]
  | _ :: _, [] => by simp [Op.bytesLess, lexLt]
  | x :: a, y :: b => by
    have ih := @less_lex a b
    simp only [Op.bytesLess, lexLt, Bool.or_eq_true, decide_eq_true_eq, Bool.and_eq_true, beq_iff_eq, ih, UInt8.lt_iff_toNat_lt]
noncomputable section
open Classical in
def cmpS (a b : Bytes) : Int := if Op.bytesLess a b = true then -1 else if Op.bytesLess b a = true then 1 else 0
def cmp_isNaN_string__ct : Ct := ⟨tys1 .str, [.val .bool], fun _ => True, fun _ => false⟩
def cmp_Compare_string__ct : Ct := ⟨tys2 .str .str, [.val tI], fun _ => True, fun x => cmpS x.1 x.2⟩
def wFar (ws : List Bytes) (w : Bytes) (i : Int) : Int := farOf (gt ws i) w
def gLt (ws : List Bytes) (w : Bytes) (a b : Int) : Prop := wFar ws w a < wFar ws w b ∨ wFar ws w a = wFar ws w b ∧ Op.bytesLess (gt ws a) (gt ws b) = true

/-! the program's comparison -/
abbrev fnGu : Nat := 63
abbrev ktGu : Tys := tys2 (.sl tI) (.sl .str)
abbrev KGu := List Int × List Bytes
def guDec : List TV → Option (Ts ktGu)
  | [.rop [.ros (.int .i64) r], .rop [.ros .str ws]] => some (r, ws)
  | _ => none
abbrev guPre (k : KGu) (a b : Int) : Prop := 0 ≤ a ∧ a < k.1.length ∧ a < k.2.length ∧ 0 ≤ b ∧ b < k.1.length ∧ b < k.2.length
def guFn (k : KGu) (a b : Int) : Int := orL [cmpI (gt k.1 a) (gt k.1 b), cmpS (gt k.2 a) (gt k.2 b), cmpI a b]
def guess_cq : Cq := ⟨fnGu, ktGu, fun (k : KGu) => [.rop [.ros (.int .i64) k.1], .rop [.ros .str k.2]], guDec, guPre, guFn⟩
def fuzzy_Guess_1_cr : Cr := guess_cq.cr
theorem fuzzy_Guess_1_cr_dec : ∀ xs k, fuzzy_Guess_1_cr.dec xs = some k → xs = fuzzy_Guess_1_cr.caps k := by
  intro xs k h
  change guDec xs = some k at h
  unfold guDec at h
  split at h
  · cases h; rfl
  · cases h

/-! the reference's -/
abbrev fnGr : Nat := 68
abbrev fnSwap5 : Nat := 133
abbrev ktGr : Tys := tys2 (.sl .str) .str
abbrev KGr := List Bytes × Bytes
def grDec : List TV → Option (Ts ktGr)
  | [.rop [.ros .str ws], .rop [.slf l], .rop [.str w]] => (match Nat.beq l 0 with | true => some (ws, w) | false => none)
  | _ => none
theorem grDec_ok : ∀ xs (k : KGr), grDec xs = some k → xs = ([.rop [.ros .str k.1], .rop [.slf 0], .rop [.str k.2]] : List TV) := fun xs k h => by
  unfold grDec at h
  split at h
  · split at h
    · rename_i h1
      cases h
      rw [beq_eq h1]
    · cases h
  · cases h
abbrev grOk (k : KGr) (x : Int) : Prop := 0 ≤ x ∧ x < k.1.length ∧ (gt k.1 x).length ≤ 20 ∧ k.2.length ≤ 20
def gu_q : Sl := ⟨tI, fnGr, ktGr, fun (k : KGr) => [.rop [.ros .str k.1], .rop [.slf 0], .rop [.str k.2]], grDec, grDec_ok, fnSwap5, 1, 3, grOk, fun (k : KGr) => gLt k.1 k.2⟩
instance guInh : Inhabited (T gu_q.et) := ⟨(0 : Int)⟩
abbrev ktGc : Tys := tys3 (.sl .str) (.sl tI) .str
abbrev KGc := List Bytes × List Int × Bytes
def grDecR : List TV → Option KGc
  | [.rop [.ros .str ws], .rop [.ros (.int .i64) r], .rop [.str w]] => some (ws, r, w)
  | _ => none
abbrev gcPre (k : KGc) (x : Int × Int) : Prop := 0 ≤ x.1 ∧ x.1 < k.2.1.length ∧ 0 ≤ x.2 ∧ x.2 < k.2.1.length ∧ grOk (k.1, k.2.2) (gt k.2.1 x.1) ∧ grOk (k.1, k.2.2) (gt k.2.1 x.2)
def ref_FuzzyGuess_1_cr : Cr := ⟨tys2 tI tI, ktGc, fun (k : KGc) => [.rop [.ros .str k.1], .rop [.ros tI k.2.1], .rop [.str k.2.2]], grDecR,
  gcPre, .bool, fun (k : KGc) (x : Int × Int) => bo (gLt k.1 k.2.2 (gt k.2.1 x.1) (gt k.2.1 x.2))⟩
theorem ref_FuzzyGuess_1_cr_dec : ∀ xs k, ref_FuzzyGuess_1_cr.dec xs = some k → xs = ref_FuzzyGuess_1_cr.caps k := fun xs k h => by
  have h : grDecR xs = some k := h
  unfold grDecR at h
  split at h
  · cases h; rfl
  · cases h
def insG_cz : Cz := insD_cz gu_q
theorem insG_cz_dec : ∀ xs k a, insG_cz.dec xs = some (k, a) → xs = insG_cz.call k a := decD2_ok gu_q
def swrG_cz : Cz := swrD_cz gu_q
theorem swrG_cz_dec : ∀ xs k a, swrG_cz.dec xs = some (k, a) → xs = swrG_cz.call k a := decD3_ok gu_q
def rotG_cz : Cz := rotD_cz gu_q
theorem rotG_cz_dec : ∀ xs k a, rotG_cz.dec xs = some (k, a) → xs = rotG_cz.call k a := decD3_ok gu_q
def symG_cz : Cz := symD_cz gu_q
theorem symG_cz_dec : ∀ xs k a, symG_cz.dec xs = some (k, a) → xs = symG_cz.call k a := decD3_ok gu_q
def symNG_cz (n : Nat) : Cz := symND_cz gu_q n
theorem symNG_cz_dec (n : Nat) : ∀ xs k a, (symNG_cz n).dec xs = some (k, a) → xs = (symNG_cz n).call k a := decD3_ok gu_q
def stbG_cz : Cz := stbD_cz gu_q
def swpG_cz : Cz := swpD_cz gu_q
def gu_sls_sf : Fi := slsFi stbG_cz 35 fnSwap5 1 3
theorem stbG_cz_dec : ∀ xs k a, stbG_cz.dec xs = some (k, a) → xs = stbG_cz.call k a := decD1_ok gu_q

open Classical in
def fuzzyGuess (ws : List Bytes) (w : Bytes) (many : Int) : List Int × Int :=
  if 80 < ws.length ∨ 20 < w.length ∨ ∃ x ∈ ws, 20 < x.length then ([], 1) else if many < 0 then ([], 2)
  else ((stab (gLt ws w) (upTo ws.length)).take (min many ws.length).toNat, 0)
def fuzzy_Guess_ct : Ct := ⟨tys3 (.sl .str) .str tI, [.own tI, .val tI], fun x => wordsPre x.1, fun x => fuzzyGuess x.1 x.2.1 x.2.2⟩
def ref_FuzzyGuess_ct : Ct := fuzzy_Guess_ct
end
theorem g_swo (ws : List Bytes) (w : Bytes) : Swo (gLt ws w) where
  irrefl x := by
    unfold gLt; rw [less_lex]
    rintro (h | ⟨_, h⟩)
    · omega
    · exact lex_irrefl _ h
  trans x y z := by
    unfold gLt; simp only [less_lex]
    rintro (h | ⟨h1, h2⟩) (g | ⟨g1, g2⟩)
    · exact .inl (by omega)
    · exact .inl (by omega)
    · exact .inl (by omega)
    · exact .inr ⟨by omega, lex_trans h2 g2⟩
  ntrans x y z := by
    unfold gLt; simp only [less_lex]
    intro h g
    rintro (k | ⟨k1, k2⟩)
    · exact h (.inl (Classical.byContradiction fun q => g (.inl (by omega))))
    · by_cases e1 : wFar ws w x = wFar ws w y
      · have a : ¬ lexLt (gt ws x) (gt ws y) := fun l => h (.inr ⟨e1, l⟩)
        have b : ¬ lexLt (gt ws y) (gt ws z) := fun l => g (.inr ⟨by omega, l⟩)
        exact lex_ntrans a b k2
      · rcases Int.lt_or_gt_of_ne e1 with e | e
        · exact h (.inl e)
        · exact g (.inl (by omega))
theorem cmpS_lt {a b : Bytes} : cmpS a b < 0 ↔ lexLt a b := by
  have e1 := @less_lex a b
  unfold cmpS
  by_cases c : Op.bytesLess a b = true
  · rw [if_pos c]; simp [e1.1 c]
  · rw [if_neg c]
    have : ¬ lexLt a b := fun z => c (e1.2 z)
    split <;> simp [this]
theorem cmpS_zero {a b : Bytes} : cmpS a b = 0 ↔ a = b := by
  have e1 := @less_lex a b
  have e2 := @less_lex b a
  unfold cmpS
  by_cases c : Op.bytesLess a b = true
  · rw [if_pos c]; simp
    rintro rfl
    exact lex_irrefl _ (e1.1 c)
  · rw [if_neg c]
    by_cases d : Op.bytesLess b a = true
    · rw [if_pos d]; simp
      rintro rfl
      exact c d
    · rw [if_neg d]; simp
      exact lex_eq (fun z => c (e1.2 z)) (fun z => d (e2.2 z))
theorem guFn_lt {ws : List Bytes} {w : Bytes} {fars : List Int} (h : ∀ i : Int, 0 ≤ i → i < ws.length → gt fars i = wFar ws w i) {a b : Int} (a0 : 0 ≤ a) (a1 : a < ws.length) (b0 : 0 ≤ b) (b1 : b < ws.length) :
    guFn (fars, ws) a b < 0 ↔ gLt ws w a b ∨ (¬ gLt ws w b a ∧ a < b) := by
  simp only [guFn, orL, h a a0 a1, h b b0 b1]
  have e1 := @cmpI_zero (wFar ws w a) (wFar ws w b)
  have e2 := @cmpI_neg (wFar ws w a) (wFar ws w b)
  have e3 := @cmpS_zero (gt ws a) (gt ws b)
  have e4 := @cmpS_lt (gt ws a) (gt ws b)
  have e5 := @cmpI_zero a b
  have e6 := @cmpI_neg a b
  unfold gLt
  rw [less_lex, less_lex]
  by_cases c1 : wFar ws w a = wFar ws w b
  · rw [if_neg (Classical.not_not.2 (e1.2 c1))]
    by_cases c2 : gt ws a = gt ws b
    · rw [if_neg (Classical.not_not.2 (e3.2 c2)), c2]
      have := lex_irrefl (gt ws b)
      by_cases c3 : a = b
      · subst c3; rw [if_neg (Classical.not_not.2 (e5.2 rfl))]; simp; omega
      · rw [if_pos (fun z => c3 (e5.1 z)), e6]
        constructor
        · intro l; exact .inr ⟨fun z => z.elim (fun q => by omega) fun q => this q.2, l⟩
        · rintro (l | ⟨_, l⟩)
          · exact l.elim (fun q => by omega) fun q => absurd q.2 this
          · exact l
    · rw [if_pos (fun z => c2 (e3.1 z)), e4]
      constructor
      · intro l; exact .inl (.inr ⟨c1, l⟩)
      · rintro (l | ⟨l, _⟩)
        · exact l.elim (fun q => by omega) fun q => q.2
        · rcases lex_total (gt ws a) (gt ws b) with q | q | q
          · exact q
          · exact absurd q c2
          · exact absurd (.inr ⟨c1.symm, q⟩) l
  · rw [if_pos (fun z => c1 (e1.1 z)), e2]
    constructor
    · intro l; exact .inl (.inl l)
    · rintro (l | ⟨l, _⟩)
      · exact l.elim id fun q => absurd q.1 c1
      · rcases Int.lt_or_gt_of_ne c1 with q | q
        · exact q
        · exact absurd (.inl q) l
theorem gu_sorts {ws : List Bytes} {w : Bytes} {fars : List Int} (h : ∀ i : Int, 0 ≤ i → i < ws.length → gt fars i = wFar ws w i) : SortOk (guFn (fars, ws)) (upTo ws.length) := by
  have hs := g_swo ws w
  refine ⟨fun x hx => ?_, fun x hx y hy z hz => ?_, fun x hx y hy z hz => ?_⟩
  · obtain ⟨x0, x1⟩ := upTo_mem.1 hx
    rw [guFn_lt h x0 x1 x0 x1]
    rintro (q | ⟨_, q⟩)
    · exact hs.irrefl _ q
    · omega
  · obtain ⟨x0, x1⟩ := upTo_mem.1 hx
    obtain ⟨y0, y1⟩ := upTo_mem.1 hy
    obtain ⟨z0, z1⟩ := upTo_mem.1 hz
    rw [guFn_lt h x0 x1 y0 y1, guFn_lt h y0 y1 z0 z1, guFn_lt h x0 x1 z0 z1]
    rintro (q | ⟨q, q'⟩) (r | ⟨r, r'⟩)
    · exact .inl (hs.trans _ _ _ q r)
    · refine .inl (Classical.byContradiction fun n => hs.ntrans _ _ _ n r q)
    · refine .inl (Classical.byContradiction fun n => hs.ntrans _ _ _ q n r)
    · exact .inr ⟨hs.ntrans _ _ _ r q, by omega⟩
  · obtain ⟨x0, x1⟩ := upTo_mem.1 hx
    obtain ⟨y0, y1⟩ := upTo_mem.1 hy
    obtain ⟨z0, z1⟩ := upTo_mem.1 hz
    rw [guFn_lt h x0 x1 y0 y1, guFn_lt h y0 y1 z0 z1, guFn_lt h x0 x1 z0 z1]
    intro a b
    have a1 : ¬ gLt ws w x y := fun n => a (.inl n)
    have b1 : ¬ gLt ws w y z := fun n => b (.inl n)
    rintro (q | ⟨q, q'⟩)
    · exact hs.ntrans _ _ _ a1 b1 q
    · by_cases c : gLt ws w y x
      · by_cases d : gLt ws w z y
        · exact q (hs.trans _ _ _ d c)
        · exact q (Classical.byContradiction fun n => hs.ntrans _ _ _ b1 n c)
      · by_cases d : gLt ws w z y
        · exact q (Classical.byContradiction fun n => hs.ntrans _ _ _ n a1 d)
        · have : ¬ x < y := fun n => a (.inr ⟨c, n⟩)
          have : ¬ y < z := fun n => b (.inr ⟨d, n⟩)
          omega
/-- What is in order by the rule, stably, is in order by the program's comparison. -/
theorem gu_stab {ws : List Bytes} {w : Bytes} {fars : List Int} (h : ∀ i : Int, 0 ≤ i → i < ws.length → gt fars i = wFar ws w i) : pdqL (guFn (fars, ws)) (upTo ws.length) = stab (gLt ws w) (upTo ws.length) := by
  have hs := g_swo ws w
  obtain ⟨p1, p2⟩ := pdqL_laws (gu_sorts h)
  obtain ⟨q1, q2⟩ := stab_spec hs (upTo ws.length)
  refine List.Perm.eq_of_pairwise (le := fun x y => ¬ guFn (fars, ws) y x < 0) ?_ p2 ?_ (p1.trans q1.1)
  · intro a b ha hb u v
    obtain ⟨a0, a1⟩ := upTo_mem.1 (p1.mem_iff.1 ha)
    obtain ⟨b0, b1⟩ := upTo_mem.1 (q1.1.mem_iff.2 hb)
    rw [guFn_lt h b0 b1 a0 a1] at u
    rw [guFn_lt h a0 a1 b0 b1] at v
    have u1 : ¬ gLt ws w b a := fun n => u (.inl n)
    have v1 : ¬ gLt ws w a b := fun n => v (.inl n)
    have : ¬ b < a := fun n => u (.inr ⟨v1, n⟩)
    have : ¬ a < b := fun n => v (.inr ⟨u1, n⟩)
    omega
  · rw [List.pairwise_iff_forall_sublist]
    intro x y hxy
    have hx : x ∈ stab (gLt ws w) (upTo ws.length) := hxy.subset (by simp)
    have hy : y ∈ stab (gLt ws w) (upTo ws.length) := hxy.subset (by simp)
    obtain ⟨x0, x1⟩ := upTo_mem.1 (q1.1.mem_iff.2 hx)
    obtain ⟨y0, y1⟩ := upTo_mem.1 (q1.1.mem_iff.2 hy)
    have o := List.pairwise_iff_forall_sublist.1 q2 hxy
    rw [guFn_lt h y0 y1 x0 x1]
    rintro (n | ⟨n, m⟩)
    · exact o n
    · have f : [x, y].filter (fun t => bo (alike (gLt ws w) x t)) = [x, y] := by
        rw [List.filter_eq_self]
        intro t ht
        simp only [List.mem_cons, List.not_mem_nil, or_false] at ht
        rcases ht with rfl | rfl
        · simp only [bo_true]; exact ⟨hs.irrefl _, hs.irrefl _⟩
        · simp only [bo_true]; exact ⟨o, n⟩
      have s := hxy.filter (fun t => bo (alike (gLt ws w) x t))
      rw [f] at s
      have s : [x, y].Sublist (cls (gLt ws w) x (stab (gLt ws w) (upTo ws.length))) := s
      rw [← q1.2 x] at s
      have s2 : [x, y].Sublist (upTo ws.length) := s.trans List.filter_sublist
      have asc : (upTo ws.length).Pairwise (· < ·) := by
        unfold upTo
        rw [List.pairwise_map]
        exact List.pairwise_lt_range.imp fun h => by omega
      have := List.pairwise_iff_forall_sublist.1 asc s2
      omega
theorem guess_a {ws : List Bytes} {w : Bytes} {many : Int} (h : 80 < ws.length ∨ 20 < w.length ∨ ∃ x ∈ ws, 20 < x.length) : fuzzyGuess ws w many = ([], 1) := by unfold fuzzyGuess; rw [if_pos h]
theorem guess_b {ws : List Bytes} {w : Bytes} {many : Int} (h : ¬ (80 < ws.length ∨ 20 < w.length ∨ ∃ x ∈ ws, 20 < x.length)) (g : many < 0) : fuzzyGuess ws w many = ([], 2) := by unfold fuzzyGuess; rw [if_neg h, if_pos g]
theorem guess_c {ws : List Bytes} {w : Bytes} {many : Int} (h : ¬ (80 < ws.length ∨ 20 < w.length ∨ ∃ x ∈ ws, 20 < x.length)) (g : ¬ many < 0) : fuzzyGuess ws w many = ((stab (gLt ws w) (upTo ws.length)).take (min many ws.length).toNat, 0) := by unfold fuzzyGuess; rw [if_neg h, if_neg g]
theorem guess_few (ws : List Bytes) (w : Bytes) (many : Int) : (fuzzyGuess ws w many).1.length ≤ 80 := by
  by_cases c : 80 < ws.length ∨ 20 < w.length ∨ ∃ x ∈ ws, 20 < x.length
  · rw [guess_a c]; simp
  · by_cases d : many < 0
    · rw [guess_b c d]; simp
    · rw [guess_c c d]
      have := stab_len (g_swo ws w) (upTo ws.length)
      have := upTo_len ws.length
      simp only [List.length_take]; omega
theorem prt_mem {α : Type} [Inhabited α] {lt : α → α → Prop} {l m : List α} {a b : Int} (h : Part lt l m a b) {x : α} (hx : x ∈ m) : x ∈ l := h.eqv.1.mem_iff.2 hx
theorem rot_mem {α : Type} [Inhabited α] {l : List α} {a m b : Int} (h0 : 0 ≤ a) (h1 : a ≤ m) (h2 : m ≤ b) (h3 : b ≤ l.length) {x : α} (hx : x ∈ rotL l a m b) : x ∈ l := by
  unfold rotL reix at hx
  simp only [List.mem_map, List.mem_range] at hx
  obtain ⟨p, hp, rfl⟩ := hx
  refine gt_mem ?_ ?_ <;> unfold rotF <;> split <;> (try split) <;> omega
end Go.Fu
