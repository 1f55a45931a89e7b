/-
  Slices that are one's own, nil or not; what is appended to them.
-/
import Derived.Test.YtfelfimcnidplaaVh2
set_option linter.unusedVariables false
set_option linter.unusedSimpArgs false
namespace Go.Vc
open HM
theorem Has.mid {S : Store} {a b c : HM} (h : Has S (a + (b + c))) : Has S (a + c) := (h.eq (m' := b + (a + c)) (by ac_rfl)).right
theorem Has.mid2 {S : Store} {a b : HM} (h : Has S (a + b)) : Has S (a + b) := h
/-- A slice of one's own: its value, its cells, how many elements, the row. -/
def SlR (k : Nat) (x : AVal) (cells : List AVal) (n : Nat) (m : HM) : Prop :=
  (x = .nils ∧ n = 0 ∧ cells = [] ∧ m = HM.nil) ∨ ∃ p v off cs, x = .sl p v off n ∧ m = pt p (.row v k cs) ∧ off + n * k ≤ cs.length ∧ cells = subL cs off (n * k)
section
variable {k n : Nat} {x : AVal} {cells cs ys : List AVal} {m : HM}
theorem SlR.nil : SlR k .nils [] 0 HM.nil := .inl ⟨rfl, rfl, rfl, rfl⟩
theorem SlR.mk {p v off : Nat} (h : off + n * k ≤ cs.length) : SlR k (.sl p v off n) (subL cs off (n * k)) n (pt p (.row v k cs)) := .inr ⟨p, v, off, cs, rfl, rfl, h, rfl⟩
theorem SlR.whole {p v : Nat} (h : cs.length = n * k) : SlR k (.sl p v 0 n) cs n (pt p (.row v k cs)) :=
  .inr ⟨p, v, 0, cs, rfl, rfl, by omega, by unfold subL; rw [List.drop_zero, List.take_of_length_le (by omega)]⟩
theorem SlR.len (h : SlR k x cells n m) : lenF false x = some n := by
  rcases h with ⟨rfl, rfl, _, _⟩ | ⟨p, v, off, cs, rfl, _, _, _⟩ <;> rfl
theorem SlR.cl (h : SlR k x cells n m) : cellsF x = some [x] := by
  rcases h with ⟨rfl, rfl, _, _⟩ | ⟨p, v, off, cs, rfl, _, _, _⟩ <;> rfl
theorem SlR.clen (h : SlR k x cells n m) : cells.length = n * k := by
  rcases h with ⟨rfl, rfl, rfl, _⟩ | ⟨p, v, off, cs, rfl, _, h1, rfl⟩
  · simp
  · simp [subL]; omega
theorem SlR.pos (h : SlR k x cells n m) (hn : 0 < n) : ∃ p v off cs, x = .sl p v off n ∧ m = pt p (.row v k cs) ∧ off + n * k ≤ cs.length ∧ cells = subL cs off (n * k) := by
  rcases h with ⟨rfl, rfl, rfl, _⟩ | h
  · omega
  · exact h
theorem subL_take {cs : List AVal} {off a b : Nat} (h : b ≤ a) : (subL cs off a).take b = subL cs off b := by simp [subL, List.take_take, Nat.min_eq_left h]
theorem subL_drop {cs : List AVal} {off a b : Nat} : (subL cs off a).drop b = subL cs (off + b) (a - b) := by simp [subL, List.drop_take, List.drop_drop]
/-- The first ones. -/
theorem SlR.head {p v off : Nat} {o : Ob} (h : SlR k (.sl p v off n) cells n m) {j : Nat} (hj : j ≤ n) : SlR k (.sl p v off j) (cells.take (j * k)) j m := by
  rcases h with ⟨h, _⟩ | ⟨p', v', off', cs, e, rfl, h1, rfl⟩
  · cases h
  · cases e
    have := Nat.mul_le_mul_right k hj
    exact .inr ⟨p, v, off, cs, rfl, rfl, by omega, subL_take this⟩
theorem SlR.tail {p v off : Nat} (h : SlR k (.sl p v off n) cells n m) {j : Nat} (hj : j ≤ n) : SlR k (.sl p v (off + j * k) (n - j)) (cells.drop (j * k)) (n - j) m := by
  rcases h with ⟨h, _⟩ | ⟨p', v', off', cs, e, rfl, h1, rfl⟩
  · cases h
  · cases e
    have := Nat.mul_le_mul_right k hj
    refine .inr ⟨p, v, off + j * k, cs, rfl, rfl, by rw [Nat.sub_mul]; omega, ?_⟩
    rw [subL_drop, Nat.sub_mul]
/-- An element's cells. -/
theorem SlR.elem {p v off : Nat} (h : SlR k (.sl p v off n) cells n (pt p (.row v k cs))) : True := trivial
theorem take_sub {off j k n : Nat} (h : off + n * k ≤ cs.length) (hj : j < n) : takeN k (cs.drop (off + j * k)) = some ((subL cs off (n * k)).drop (j * k) |>.take k) := by
  have h1 : j * k + k ≤ n * k := by have := Nat.mul_le_mul_right k (show j + 1 ≤ n by omega); rw [Nat.add_mul] at this; omega
  rw [takeN_of_le _ _ (by rw [List.length_drop]; omega), subL_drop]
  unfold subL
  rw [List.take_take, Nat.min_eq_left (by omega)]
end
/-- From parts of memory to a plain contract: two rows of one's own, or none. -/
theorem has_two {S : Store} {p q : Nat} {o o' : Ob} {X : HM} (h : Has S (pt p o + (pt q o' + X))) : Sub (fun i => if i = 0 then p else q) [o, o'] S := by
  have hpq : p ≠ q := by
    obtain ⟨x, rfl⟩ := X.ex
    have h : HasL S ((p, o) :: (q, o') :: x) := h
    intro e
    have := (List.nodup_cons.1 h.nd).1
    exact this (by simp [e])
  refine ⟨fun l l' h1 h2 e => ?_, fun l o'' hl => ?_⟩
  · simp only [List.length_cons, List.length_nil] at h1 h2
    rcases l with _ | _ | l <;> rcases l' with _ | _ | l' <;> first | rfl | (simp at e; exact absurd e hpq) | (simp at e; exact absurd e.symm hpq) | omega
  · rcases l with _ | _ | l
    · simp at hl; subst hl; exact ⟨_, h.get, .refl _⟩
    · simp at hl; subst hl; exact ⟨_, h.right.get, .refl _⟩
    · simp at hl
theorem has_one {S : Store} {p : Nat} {o : Ob} {X : HM} (h : Has S (pt p o + X)) : Sub (fun _ => p) [o] S := by
  refine ⟨fun l l' h1 h2 e => ?_, fun l o'' hl => ?_⟩
  · simp only [List.length_cons, List.length_nil] at h1 h2; omega
  · rcases l with _ | l
    · simp at hl; subst hl; exact ⟨_, h.get, .refl _⟩
    · simp at hl
theorem has_none {S : Store} : Sub id [] S := ⟨fun l l' h => by simp at h, fun l o h => by simp at h⟩
theorem HC.plainly {P : Program} {f : FuncId} {args : List AVal} {R : AVal → HM → Prop} {K : AVal → Store → Prop} (h : HC P f args HM.nil R) (hR : ∀ r m' S', R r m' → Has S' m' → ∃ r' φ S'', LeV r r' ∧ Sub φ S'' S' ∧ K r' S'') : ACalls P f args [] K :=
  (h [] HM.nil (by rw [HM.add_nil]; exact ⟨.nil, fun p h => by simp at h⟩)).weak fun r S' ⟨m', h1, h2⟩ => hR r m' S' h1 h2.left
section
variable {P : Program} {F : Frame} {S : Store} {K : AVal → Store → Prop} {m a : HM} {g : HM → HM} {x y : Rand} {X : AVal} {cells ys : List AVal} {k n n' b : Nat}
theorem SrcOf.one (h : ys.length = k) : SrcOf m k (.ros 1 ys) 1 ys := ⟨rfl, by omega, by rw [List.take_of_length_le (by omega)]⟩
theorem SrcOf.own {p v off : Nat} {cs : List AVal} {o : Ob} {f : Ob → HM} [i : At m p o f] (ho : o = .row v k cs) (hle : off + n * k ≤ cs.length) : SrcOf m k (.sl p v off n) n (subL cs off (n * k)) := ⟨rfl, cs, f, o, i, ho, hle, rfl⟩
theorem o_appendR (hS : Has S m) (hx : rd F x = X) (hs : SlR k X cells n a) [i : Part m a g] (hy : SrcOf m k (rd F y) n' ys) (hl : ys.length = n' * k) (hb : (n + n') * b ≤ 140737488355328) (h : ∀ X' a' S', SlR k X' (cells ++ ys) (n + n') a' → Has S' (g a') → K X' S') : vcOp P F S K (.append k b x y) := by
  obtain ⟨R, hR⟩ := i.split
  have hS' : Has S (a + R) := by have := i.eq ▸ hS; rwa [hR] at this
  rcases hs with ⟨rfl, rfl, rfl, rfl⟩ | ⟨p, v, off, cs, rfl, rfl, h1, rfl⟩
  · refine o_appendN hS hx hy (by simpa using hb) fun v l S' hS' => ?_
    have hE : m = R := by rw [i.eq, hR]; exact HM.nil_add _
    have := h (.sl l v 0 n') (pt l (.row v k ys)) S' (by rw [List.nil_append, Nat.zero_add]; exact SlR.whole hl) (by rw [hR, ← hE]; exact hS')
    exact this
  · have hy' : SrcOf (pt p (.row v k cs) + R) k (rd F y) n' ys := by
      have e : m = pt p (.row v k cs) + R := by rw [i.eq, hR]
      rw [← e]; exact hy
    refine o_append hS' hx hy' (i := inferInstance) rfl h1 hb fun v' S'' hS'' => ?_
    refine h (.sl p v' 0 (n + n')) (pt p (.row v' k (subL cs off (n * k) ++ ys))) S'' ?_ (by rw [hR]; exact hS'')
    have hc : (subL cs off (n * k)).length = n * k := by simp [subL]; omega
    exact SlR.whole (by rw [List.length_append, hc, hl, Nat.add_mul])
theorem o_appendX {p v : Nat} {f : Ob → HM} {o : Ob} {cs : List AVal} (hS : Has S m) (hx : rd F x = .sl p v 0 n) (hy : SrcOf m k (rd F y) n' ys) [i : At m p o f] (ho : o = .row v k cs) (hl : cs.length = n * k) (hb : (n + n') * b ≤ 140737488355328) (h : ∀ v' S', Has S' (f (.row v' k (cs ++ ys))) → K (.sl p v' 0 (n + n')) S') : vcOp P F S K (.append k b x y) := by
  refine o_append hS hx hy ho (by omega) hb fun v' S' hS' => h v' S' ?_
  have e : subL cs 0 (n * k) = cs := by unfold subL; rw [List.drop_zero, List.take_of_length_le (by omega)]
  rw [e] at hS'; exact hS'
theorem o_pickT {c : Rand} (hc : rd F c = .tt) (h : K (rd F x) S) : vcOp P F S K (.pick c x y) := by refine rdK_iff.2 ?_; rw [hc]; exact rdK_iff.2 h
theorem o_pickF {c : Rand} (hc : rd F c = .ff) (h : K (rd F y) S) : vcOp P F S K (.pick c x y) := by refine rdK_iff.2 ?_; rw [hc]; exact rdK_iff.2 h
end
end Go.Vc
