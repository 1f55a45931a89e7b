/-
  Iterators and the loops over them, over parts of memory.
-/
import Derived.Test.YtfelfimcnidplaaVh5
import Derived.Test.YtfelfimcnidplaaVx4
set_option linter.unusedVariables false
set_option linter.unusedSimpArgs false
namespace Go.Vc
open HM
/-- What a call of yield does to a part of memory. -/
def HY (P : Program) (b : Nat) (args : List AVal) (m : HM) (R : AVal → HM → Prop) : Prop :=
  ∀ S mf, Has S (m + mf) → YCalls P b args S fun r S' => ∃ m', R r m' ∧ Has S' (m' + mf)
theorem HY.use {P : Program} {b : Nat} {args : List AVal} {m a : HM} {R : AVal → HM → Prop} {g : HM → HM} [i : Part m a g] (hc : HY P b args a R) {S : Store} (h : Has S m) {K : AVal → Store → Prop} (hk : ∀ r m' S', R r m' → Has S' (g m') → K r S') : YCalls P b args S K := by
  obtain ⟨R0, hR⟩ := i.split
  have h := i.eq ▸ h
  rw [hR] at h
  exact (hc S R0 h).mono fun r S' ⟨m', h1, h2⟩ => hk r m' S' h1 (by rw [hR]; exact h2)
/-- A function that yields these, one after the other; It is what it has of its own. -/
def HSeq (P : Program) (f : FuncId) (cap : List AVal) (xs : List (List AVal)) (It : HM) : Prop :=
  ∀ (b : Nat) (C : Nat → HM → Prop), (∀ i a c, xs[i]? = some a → C i c → HY P b a c fun r m' => r = .bool true ∧ C (i + 1) m') → ∀ c, C 0 c →
    HC P f (.fn (.yield b) [] [] :: cap) (It + c) fun r m' => ∃ c' X, C xs.length c' ∧ m' = c' + X
theorem HC.more {P : Program} {f : FuncId} {args : List AVal} {R : AVal → HM → Prop} (h : HC P f args HM.nil R) {S : Store} {m : HM} (hS : Has S m) {K : AVal → Store → Prop} (hk : ∀ r m' S', R r m' → Has S' (m' + m) → K r S') : ACalls P f args S K :=
  (h S m (by rw [HM.nil_add]; exact hS)).mono fun r S' ⟨m', h1, h2⟩ => hk r m' S' h1 h2
/-- A slice of one's own that is the whole of its row, or nil. -/
def SlW (k : Nat) (x : AVal) (cells : List AVal) (n : Nat) (m : HM) : Prop := (x = .nils ∧ n = 0 ∧ cells = [] ∧ m = HM.nil) ∨ ∃ p v, x = .sl p v 0 n ∧ m = pt p (.row v k cells) ∧ cells.length = n * k
theorem SlW.r {k : Nat} {x : AVal} {cells : List AVal} {n : Nat} {m : HM} (h : SlW k x cells n m) : SlR k x cells n m := by
  rcases h with ⟨rfl, rfl, rfl, rfl⟩ | ⟨p, v, rfl, rfl, h⟩
  · exact .nil
  · exact SlR.whole h
theorem o_appendW {P : Program} {F : Frame} {S : Store} {K : AVal → Store → Prop} {m a : HM} {g : HM → HM} {x y : Rand} {X : AVal} {cells ys : List AVal} {k n n' b : Nat} (hS : Has S m) (hx : rd F x = X) (hs : SlW k X cells n a) [i : Part m a g] (hy : rd F y = .ros n' ys) (hl : ys.length = n' * k) (hb : (n + n') * b ≤ 140737488355328)
    (h : ∀ X' a' S', SlW k X' (cells ++ ys) (n + n') a' → Has S' (g a') → K X' S') : vcOp P F S K (.append k b x y) := by
  obtain ⟨R, hR⟩ := i.split
  have hS' : Has S (a + R) := by have := i.eq ▸ hS; rwa [hR] at this
  have src : ∀ m, SrcOf m k (rd F y) n' ys := fun m => by rw [hy]; exact ⟨rfl, by omega, by rw [List.take_of_length_le (by omega)]⟩
  rcases hs with ⟨rfl, rfl, rfl, rfl⟩ | ⟨p, v, rfl, rfl, h1⟩
  · refine o_appendN hS hx (src _) (by simpa using hb) fun v l S' hS' => ?_
    have hE : m = R := by rw [i.eq, hR]; exact HM.nil_add _
    exact h (.sl l v 0 n') (pt l (.row v k ys)) S' (.inr ⟨l, v, by rw [Nat.zero_add], by rw [List.nil_append], by simpa using hl⟩) (by rw [hR, ← hE]; exact hS') |> fun q => by simpa using q
  · refine o_appendX hS' hx (src _) (i := inferInstance) rfl h1 hb fun v' S'' hS'' => ?_
    exact h (.sl p v' 0 (n + n')) (pt p (.row v' k (cells ++ ys))) S'' (.inr ⟨p, v', rfl, rfl, by rw [List.length_append, h1, hl, Nat.add_mul]⟩) (by rw [hR]; exact hS'')
theorem SlW.len {k n : Nat} {x : AVal} {cells : List AVal} {m : HM} (h : SlW k x cells n m) : lenF false x = some n := h.r.len
theorem SlW.cl {k n : Nat} {x : AVal} {cells : List AVal} {m : HM} (h : SlW k x cells n m) : cellsF x = some [x] := h.r.cl
theorem SlW.nil {k : Nat} : SlW k .nils [] 0 HM.nil := .inl ⟨rfl, rfl, rfl, rfl⟩
section
variable {P : Program} {N : Nat} {F : Frame} {S : Store} {Q : SExit → Frame → Store → Prop}
theorem o_yield {K : AVal → Store → Prop} {x : Rand} {as : List Rand} {b : Nat} (hx : rd F x = .fn (.yield b) [] []) (h : YCalls P b (as.map (rd F)) S K) : vcOp P F S K (.callv x as) := by
  refine rdK_iff.2 ?_; rw [hx]; exact ⟨trivial, rdsK_of h⟩
def extF : ExtK → List AVal → Option AVal
  | .idxb, [.str s, .int .u8 c] => some (.int .i64 (Lib.indexByte s c.toNat.toUInt8))
  | _, _ => none
theorem o_ext {K : AVal → Store → Prop} {k : ExtK} {as : List Rand} {r : AVal} (hx : extF k (as.map (rd F)) = some r) (h : K r S) : vcOp P F S K (.ext k as) := by
  refine rdsK_of ?_
  generalize as.map (rd F) = xs at *
  unfold extF at hx
  split at hx
  · cases hx; exact h
  · cases hx
/-- A row of bytes, as a text. -/
theorem o_b2s {K : AVal → Store → Prop} {m : HM} {x : Rand} {p v n : Nat} {o : Ob} {f : Ob → HM} {bs : List UInt8} (hS : Has S m) (hx : rd F x = .sl p v 0 n) [i : At m p o f] (ho : o = .row v 1 (bs.map fun c => .int .u8 c.toNat)) (hl : bs.length = n) (h : K (.str bs) S) : vcOp P F S K (.b2s x) := by
  refine rdK_iff.2 ?_; rw [hx]
  refine hS.row ho ⟨by rw [List.length_map]; omega, bs.map fun c => (c.toNat : Int), ?_, ?_⟩
  · unfold subL
    rw [List.drop_zero, List.take_of_length_le (by rw [List.length_map]; omega), List.map_map]; rfl
  · rw [List.map_map]
    have e : (bs.map ((fun n : Int => UInt8.ofNat n.toNat) ∘ fun c => (c.toNat : Int))) = bs := by
      conv => rhs; rw [← List.map_id bs]
      exact List.map_congr_left fun c _ => by simp
    rw [e]; exact h
theorem l_seqL {x : RCode} {y : SCode} (h : vcL P N x (SExit.onNormal (vc P y Q) Q) F S) : vcL P N (.seqL x y) Q F S := h
theorem l_seqR {x : SCode} {y : RCode} (h : vc P x (SExit.onNormal (vcL P N y Q) Q) F S) : vcL P N (.seqR x y) Q F S := h
theorem l_block {id : Nat} {x : RCode} (h : vcL P N x (SExit.onBlock id Q) F S) : vcL P N (.block id x) Q F S := h
/-- **A round, over parts of memory.** -/
theorem HY.round {L : Loop} {ps : List Nat} {sa sb : SCode} {b p : Nat} {args : List AVal} {C : HM} {C' : HM → Prop} {G : Frame → Prop} (hL : YOk P N L ps sa sb) (hl : args.length = ps.length)
    (ha : ∀ S, vc P sa (fun e F1 S1 => e = .normal ∧ S1 = S ∧ G F1) (putsF F ps args) S)
    (hb : ∀ F1 S mf, G F1 → Has S (C + mf) → vc P sb (fun e F2 S2 => e = .normal ∧ ∃ m', C' m' ∧ Has S2 (m' + mf)) F1 S) :
    HY P b args (pt p (.loopo b L F) + C) fun r m' => r = .bool true ∧ ∃ c, C' c ∧ m' = pt p (.loopo b L F) + c := by
  intro S mf hS
  have hS1 : Has S (pt p (.loopo b L F) + (C + mf)) := hS.eq (by ac_rfl)
  have hd : Has (S.set p .dead) (C + (pt p .dead + mf)) := (hS1.put .dead).eq (by ac_rfl)
  refine YCalls.of (draw_sound P N) hL hS1.get hl (ha S) (Q2 := fun e F2 S2 => e = .normal ∧ ∃ m', C' m' ∧ Has S2 (m' + (pt p .dead + mf))) ?_ ?_
  · rintro e F1 S1 ⟨rfl, rfl, hG⟩
    exact ⟨rfl, hS1.get, hb F1 _ _ hG hd⟩
  · rintro e F2 S2 ⟨rfl, m', h1, h2⟩
    have h3 : Has S2 (pt p .dead + (m' + mf)) := h2.eq (by ac_rfl)
    exact ⟨rfl, h3.get, _, ⟨rfl, m', h1, rfl⟩, (h3.put _).eq (by ac_rfl)⟩
/-- **A loop over an iterator.** -/
theorem l_range {g : Rand} {ps : List Nat} {sa sb : SCode} {gf : FuncId} {cap : List AVal} {xs : List (List AVal)} {It d0 mf : HM} (D : Nat → HM → Prop) (G : Nat → Frame → Prop)
    (hg : rd F g = .fn (.func gf) [] cap) (hgc : callable P gf = true) (hseq : HSeq P gf cap xs It) (hS : Has S ((It + d0) + mf)) (h0 : D 0 d0) (hl : ∀ a ∈ xs, a.length = ps.length)
    (ha : ∀ (i : Nat) a S, xs[i]? = some a → vc P sa (fun e F1 S1 => e = .normal ∧ S1 = S ∧ G i F1) (putsF F ps a) S)
    (hb : ∀ (i : Nat) F1 S d mf, i < xs.length → D i d → G i F1 → Has S (d + mf) → vc P sb (fun e F2 S2 => e = .normal ∧ ∃ d', D (i + 1) d' ∧ Has S2 (d' + mf)) F1 S)
    (hQ : ∀ d X S', D xs.length d → Has S' ((d + X) + mf) → Q .normal F S') : vcL P N (.rfun g ps sa sb) Q F S := by
  refine ⟨gf, cap, hg, hgc, fun b L hL => ?_⟩
  have hS1 : Has (S ++ [.loopo b L F]) (pt S.length (.loopo b L F) + ((It + d0) + mf)) := hS.more _
  have hc := hseq b (fun i c => ∃ d, D i d ∧ c = pt S.length (.loopo b L F) + d) (fun i a c hi hc => by
    obtain ⟨d, hd, rfl⟩ := hc
    have hlt : i < xs.length := (List.getElem?_eq_some_iff.1 hi).1
    refine fun S mf hS => (HY.round (G := G i) (C' := D (i + 1)) hL (hl a (List.mem_of_getElem? hi)) (fun S => ha i a S hi) (fun F1 S mf hG hS => hb i F1 S d mf hlt hd hG hS) S mf hS).mono ?_
    rintro r S' ⟨m', ⟨rfl, c, h1, rfl⟩, h2⟩
    exact ⟨_, ⟨rfl, c, h1, rfl⟩, h2⟩) _ ⟨d0, h0, rfl⟩
  refine (hc _ mf (hS1.eq (by ac_rfl))).mono ?_
  rintro r S' ⟨m', ⟨c', X, ⟨d, hd, rfl⟩, rfl⟩, h2⟩
  have h3 : Has S' (pt S.length (.loopo b L F) + ((d + X) + mf)) := h2.eq (by ac_rfl)
  exact ⟨h3.get, hQ d X _ hd (h3.put .dead).right⟩
end
end Go.Vc
