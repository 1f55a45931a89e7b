/-
  Iterators over maps, and iterators whose order is drawn, over parts of memory.
-/
import Derived.Test.YtfelfimcnidplaaVh7
set_option linter.unusedVariables false
set_option linter.unusedSimpArgs false
namespace Go.Vc
open HM
theorem Has.iter {l v mv since last : Nat} {seen : List Nat} {S : Store} {m : HM} {o : Ob} {f : Ob → HM} [i : At m l o f] (h : Has S m) {K : Nat → Nat → Nat → List Nat → Prop} (ho : o = .itero v mv since last seen) (hk : K mv since last seen) : wIter S l v K := wIter_iff.2 ⟨mv, since, last, seen, by rw [h.here (l := l), ho], hk⟩
section
variable {P : Program} {F : Frame} {S : Store} {K : AVal → Store → Prop} {m : HM} {x y z : Rand} {l v : Nat} {o : Ob} {f : Ob → HM} {es : List (AVal × AVal)}
theorem o_mrange (hS : Has S m) (hx : rd F x = .map l v) [i : At m l o f] (ho : o = .mapo v es) (h : ∀ v' l' S', Has S' (pt l' (.itero v' v es.length es.length []) + m) → K (.ptr l' v' 0) S') : vcOp P F S K (.mrange x) := by
  refine rdK_iff.2 ?_
  rw [hx]
  exact hS.map ho fun v' => hS.wpush fun l' S' => h v' l' S'
theorem o_mnext {mv since last lm : Nat} {seen : List Nat} {o' : Ob} {f' : Ob → HM} (hS : Has S m) (hx : rd F x = .ptr l v 0) [i : At m l o f] (ho : o = .itero v mv since last seen) [i' : At m lm o' f'] (ho' : o' = .mapo mv es) (hl : es.length = since)
    (h0 : (∀ i : Nat, i < es.length → i ∈ seen) → K (.tup [.bool false]) S) (h1 : ∀ (i : Nat) (e : AVal × AVal) S', es[i]? = some e → i ∉ seen → Has S' (f (.itero v mv since es.length (seen ++ [i]))) → K (.tup [.bool true, e.1, e.2]) S') : vcOp P F S K (.mnext x) := by
  refine rdK_iff.2 ?_
  rw [hx]
  exact hS.iter ho ⟨lm, es, by rw [hS.here (l := lm), ho'], hl, h0, fun i e q1 q2 => hS.wset fun S' hS' => h1 i e S' q1 q2 hS'⟩
theorem o_mentry {mv since lm j : Nat} {seen : List Nat} {o' : Ob} {f' : Ob → HM} {e : AVal × AVal} (hS : Has S m) (hx : rd F x = .ptr l v 0) [i : At m l o f] (ho : o = .itero v mv since es.length (seen ++ [j])) [i' : At m lm o' f'] (ho' : o' = .mapo mv es) (he : es[j]? = some e)
    (h : K (.tup [e.1, e.2]) S) : vcOp P F S K (.mentry x) := by
  refine rdK_iff.2 ?_
  rw [hx]
  exact hS.iter ho ⟨lm, es, j, e, by rw [hS.here (l := lm), ho'], rfl, by simp, he, h⟩
/-- Two pointers held against each other. -/
theorem o_peq {l v l' v' off off' : Nat} {neg : Bool} {cs cs' : List AVal} (hx : rd F x = .ptr l v off) (hy : rd F y = .ptr l' v' off') (h1 : S[l]? = some (.row v 0 cs)) (h2 : S[l']? = some (.row v' 0 cs')) (h : K (.bool (decide (l = l' ∧ off = off') != neg)) S) : vcOp P F S K (.peq neg x y) := by
  refine rdK_iff.2 (rdK_iff.2 ?_); rw [hx, hy]
  exact wRow_iff.2 ⟨0, cs, h1, rfl, wRow_iff.2 ⟨0, cs', h2, rfl, h⟩⟩
theorem o_peqN {l v off : Nat} {neg : Bool} (hx : rd F x = .ptr l v off) (hy : rd F y = .nilp) (h : K (.bool neg) S) : vcOp P F S K (.peq neg x y) := by
  refine rdK_iff.2 (rdK_iff.2 ?_); rw [hx, hy]; exact h
theorem o_peqM {l v off : Nat} {neg : Bool} (hx : rd F x = .nilp) (hy : rd F y = .ptr l v off) (h : K (.bool neg) S) : vcOp P F S K (.peq neg x y) := by
  refine rdK_iff.2 (rdK_iff.2 ?_); rw [hx, hy]; exact h
theorem o_peqZ {neg : Bool} (hx : rd F x = .nilp) (hy : rd F y = .nilp) (h : K (.bool (!neg)) S) : vcOp P F S K (.peq neg x y) := by
  refine rdK_iff.2 (rdK_iff.2 ?_); rw [hx, hy]; exact h
theorem has_ne {l l' : Nat} {o o' : Ob} {R : HM} (h : Has S (pt l o + (pt l' o' + R))) : l ≠ l' := by
  obtain ⟨x, rfl⟩ := R.ex
  have h : HasL S ((l, o) :: (l', o') :: x) := h
  intro e
  have := (List.nodup_cons.1 h.nd).1
  exact this (by simp [e])
theorem o_mkif {t : TypeId} (h : K (.iface t (rd F x)) S) : vcOp P F S K (.mkif t x) := rdK_iff.2 h
end
/-- A function that yields one of these lists, each value one after the other; It is what it has of its own, and stays. -/
def HSeqP (P : Program) (f : FuncId) (cap : List AVal) (Xs : List (List AVal) → Prop) (It : HM) : Prop :=
  ∀ (b : Nat) (C : List (List AVal) → HM → Prop), (∀ pre a c, (∃ r, Xs (pre ++ a :: r)) → C pre c → HY P b a c fun r m' => r = .bool true ∧ C (pre ++ [a]) m') → ∀ c, C [] c →
    HC P f (.fn (.yield b) [] [] :: cap) (It + c) fun r m' => ∃ xs c' X, Xs xs ∧ C xs c' ∧ m' = It + (c' + X)
section
variable {P : Program} {N : Nat} {F : Frame} {S : Store} {Q : SExit → Frame → Store → Prop}
theorem l_rangeP {g : Rand} {ps : List Nat} {sa sb : SCode} {gf : FuncId} {cap : List AVal} {Xs : List (List AVal) → Prop} {It d0 mf : HM} (D : List (List AVal) → HM → Prop) (G : List (List AVal) → List AVal → Frame → Prop)
    (hg : rd F g = .fn (.func gf) [] cap) (hgc : callable P gf = true) (hseq : HSeqP P gf cap Xs It) (hS : Has S ((It + d0) + mf)) (h0 : D [] d0) (hl : ∀ xs, Xs xs → ∀ a ∈ xs, a.length = ps.length)
    (ha : ∀ pre a S, (∃ r, Xs (pre ++ a :: r)) → vc P sa (fun e F1 S1 => e = .normal ∧ S1 = S ∧ G pre a F1) (putsF F ps a) S)
    (hb : ∀ pre a F1 S d mf, (∃ r, Xs (pre ++ a :: r)) → D pre d → G pre a F1 → Has S (d + mf) → vc P sb (fun e F2 S2 => e = .normal ∧ ∃ d', D (pre ++ [a]) d' ∧ Has S2 (d' + mf)) F1 S)
    (hQ : ∀ xs d X S', Xs xs → D xs d → Has S' ((It + (d + X)) + mf) → Q .normal F S') : vcL P N (.rfun g ps sa sb) Q F S := by
  refine ⟨gf, cap, hg, hgc, fun b L hL => ?_⟩
  have hS1 : Has (S ++ [.loopo b L F]) (pt S.length (.loopo b L F) + ((It + d0) + mf)) := hS.more _
  have hc := hseq b (fun pre c => ∃ d, D pre d ∧ c = pt S.length (.loopo b L F) + d) (fun pre a c hx hc => by
    obtain ⟨d, hd, rfl⟩ := hc
    refine fun S mf hS => (HY.round (G := G pre a) (C' := D (pre ++ [a])) hL (by obtain ⟨r, hr⟩ := hx; exact hl _ hr a (by simp)) (fun S => ha pre a S hx) (fun F1 S mf hG hS => hb pre a F1 S d mf hx hd hG hS) S mf hS).mono ?_
    rintro r S' ⟨m', ⟨rfl, c, h1, rfl⟩, h2⟩
    exact ⟨_, ⟨rfl, c, h1, rfl⟩, h2⟩) _ ⟨d0, h0, rfl⟩
  refine (hc _ mf (hS1.eq (by ac_rfl))).mono ?_
  rintro r S' ⟨m', ⟨xs, c', X, hx, ⟨d, hd, rfl⟩, rfl⟩, h2⟩
  have h3 : Has S' (pt S.length (.loopo b L F) + ((It + (d + X)) + mf)) := h2.eq (by ac_rfl)
  exact ⟨h3.get, hQ xs d X _ hx hd (h3.put .dead).right⟩
end
end Go.Vc
