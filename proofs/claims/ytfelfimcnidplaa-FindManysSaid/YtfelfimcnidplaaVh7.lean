/-
  Maps, over parts of memory.
-/
import Derived.Test.YtfelfimcnidplaaVh6
set_option linter.unusedVariables false
set_option linter.unusedSimpArgs false
namespace Go.Vc
open HM
theorem Has.map {l v : Nat} {S : Store} {m : HM} {o : Ob} {f : Ob → HM} {es : List (AVal × AVal)} [i : At m l o f] (h : Has S m) {K : List (AVal × AVal) → Prop} (ho : o = .mapo v es) (hk : K es) : wMap S l v K := wMap_iff.2 ⟨es, by rw [h.here (l := l), ho], hk⟩
/-- All the keys are of one kind. -/
def Keys (q : KeyQ) (es : List (AVal × AVal)) : Prop := ∀ e ∈ es, keyOk q e.1 = true
theorem Keys.nil {q : KeyQ} : Keys q [] := fun _ h => by cases h
theorem Keys.put {q : KeyQ} {es : List (AVal × AVal)} {y x : AVal} (h : Keys q es) (hy : keyOk q y = true) : Keys q (keyPut y x es) := fun e he => by
  unfold keyPut at he
  split at he
  · rcases List.mem_or_eq_of_mem_set he with he | he
    · exact h e he
    · rw [he]; exact hy
  · rcases List.mem_append.1 he with he | he
    · exact h e he
    · simp only [List.mem_singleton] at he; rw [he]; exact hy
/-- What a look gives. -/
def lookM (ok : Bool) (d y : AVal) (es : List (AVal × AVal)) : AVal := match keyAt y es with | some (_, u) => lookV ok u true | none => lookV ok d false
theorem lookM_some {ok : Bool} {d y u : AVal} {es : List (AVal × AVal)} {j : Nat} (h : keyAt y es = some (j, u)) : lookM ok d y es = lookV ok u true := by unfold lookM; rw [h]
theorem lookM_none {ok : Bool} {d y : AVal} {es : List (AVal × AVal)} (h : keyAt y es = none) : lookM ok d y es = lookV ok d false := by unfold lookM; rw [h]
theorem keyPut_some {y x u : AVal} {es : List (AVal × AVal)} {j : Nat} (h : keyAt y es = some (j, u)) : keyPut y x es = es.set j (y, x) := by unfold keyPut; rw [h]
theorem keyPut_none {y x : AVal} {es : List (AVal × AVal)} (h : keyAt y es = none) : keyPut y x es = es ++ [(y, x)] := by unfold keyPut; rw [h]
section
variable {P : Program} {F : Frame} {S : Store} {K : AVal → Store → Prop} {m : HM} {x y z : Rand} {l v : Nat} {o : Ob} {f : Ob → HM} {es : List (AVal × AVal)} {q : KeyQ}
theorem o_shr {k k' : IntKind} {a b : Int} {eq : EqQ} (hx : rd F x = .int k a) (hy : rd F y = .int k' b) (hb : 0 ≤ b) (h : K (.int k (a.fdiv (2 ^ (min b.toNat k.bits)))) S) : vcOp P F S K (.bin eq .shr x y) := by
  refine rdK_iff.2 (rdK_iff.2 ?_); rw [hx, hy]; exact ⟨hb, h⟩
theorem o_mkmap (hS : Has S m) (h : ∀ v l S', Has S' (pt l (.mapo v []) + m) → K (.map l v) S') : vcOp P F S K .mkmap := fun v => hS.wpush fun l S' => h v l S'
theorem o_mlook {ok : Bool} {d : AVal} (hS : Has S m) (hx : rd F x = .map l v) (hq : keyOk q (rd F y) = true) [i : At m l o f] (ho : o = .mapo v es) (hk : Keys q es) (h : K (lookM ok d (rd F y) es) S) : vcOp P F S K (.mlook q ok d x y) := by
  refine rdK_iff.2 (rdK_iff.2 ⟨hq, ?_⟩)
  rw [hx]
  exact hS.map ho ⟨hk, h⟩
theorem o_mupd (hS : Has S m) (hx : rd F x = .map l v) (hq : keyOk q (rd F y) = true) [i : At m l o f] (ho : o = .mapo v es) (hk : Keys q es) (h : ∀ S', Has S' (f (.mapo v (keyPut (rd F y) (rd F z) es))) → K .junk S') : vcOp P F S K (.mupd q x y z) := by
  refine rdK_iff.2 (rdK_iff.2 (rdK_iff.2 ⟨hq, ?_⟩))
  rw [hx]
  exact hS.map ho ⟨hk, hS.wset fun S' => h S'⟩
/-- The entry of a key that is there. -/
theorem o_mentS {d u : AVal} {j : Nat} (hS : Has S m) (hx : rd F x = .map l v) (hq : keyOk q (rd F y) = true) [i : At m l o f] (ho : o = .mapo v es) (hk : Keys q es) (he : keyAt (rd F y) es = some (j, u)) (h : ∀ S', Has S' (f (.mapo v (es.set j (rd F y, u)))) → K (.tup [u, .int .i64 (j : Int)]) S') : vcOp P F S K (.ment q d x y) := by
  refine rdK_iff.2 (rdK_iff.2 ⟨hq, ?_⟩)
  rw [hx]
  refine hS.map ho ⟨hk, ?_⟩
  rw [he]
  exact hS.wset fun S' => h S'
/-- The entry of a key that is not there. -/
theorem o_mentN {d : AVal} (hS : Has S m) (hx : rd F x = .map l v) (hq : keyOk q (rd F y) = true) [i : At m l o f] (ho : o = .mapo v es) (hk : Keys q es) (he : keyAt (rd F y) es = none) (h : ∀ S', Has S' (f (.mapo v (es ++ [(rd F y, d)]))) → K (.tup [d, .int .i64 (es.length : Int)]) S') : vcOp P F S K (.ment q d x y) := by
  refine rdK_iff.2 (rdK_iff.2 ⟨hq, ?_⟩)
  rw [hx]
  refine hS.map ho ⟨hk, ?_⟩
  rw [he]
  exact hS.wset fun S' => h S'
theorem o_mset {e : AVal × AVal} {j : Nat} {ik : IntKind} (hS : Has S m) (hx : rd F x = .map l v) (hy : rd F y = .int ik (j : Int)) [i : At m l o f] (ho : o = .mapo v es) (he : es[j]? = some e) (h : ∀ S', Has S' (f (.mapo v (es.set j (e.1, rd F z)))) → K .junk S') : vcOp P F S K (.mset x y z) := by
  refine rdK_iff.2 (rdK_iff.2 (rdK_iff.2 ?_))
  rw [hx, hy]
  refine ⟨j, rfl, hS.map ho ?_⟩
  rw [he]
  exact hS.wset fun S' => h S'
end
end Go.Vc
