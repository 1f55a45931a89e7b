/-
  Memory that no one writes any more, read as just the cells that a slice has.
-/
import Derived.Test.YtfelfimcnidplaaVh4
set_option linter.unusedVariables false
set_option linter.unusedSimpArgs false
namespace Go.Vc
open HM
/-- As deref, but a slice has no more cells than its own. -/
def derefT (S : Store) : Nat → AVal → AVal
  | 0, x => x
  | n + 1, .sl l v off len => match S[l]? with
    | some (.row v' k cs) => if v' = v then .ros len (((cs.drop off).take (len * k)).map (derefT S n)) else .sl l v off len
    | _ => .sl l v off len
  | n + 1, .ptr l v off => match S[l]? with
    | some (.row v' _ cs) => if v' = v then .rop ((cs.drop off).map (derefT S n)) else .ptr l v off
    | _ => .ptr l v off
  | n + 1, .agg cs => .agg (cs.map (derefT S n))
  | n + 1, .tup cs => .tup (cs.map (derefT S n))
  | _ + 1, .nils => .ros 0 []
  | _ + 1, x => x
theorem derefT_rel {E : Env} {fz : Nat → Prop} {S : Store} {w : World} (st : St E fz S w) : ∀ (n : Nat) (x : AVal) (v : Value), Rel E fz w x v → Rel E (frozen E fz S) w (derefT S n x) v := by
  have up : ∀ (x : AVal) (v : Value), Rel E fz w x v → Rel E (frozen E fz S) w x v := fun x v h => Rel.mono (fun _ _ h => h) (fun _ h => .inl h) (fun _ _ => rfl) x h
  intro n
  induction n with
  | zero => intro x v h; exact up x v h
  | succ n ih =>
    intro x v h
    have row : ∀ {l ver k : Nat} {cs : List AVal} {b base cap k0 : Nat}, S[l]? = some (.row ver k cs) → E ver = some (.real b base cap k0) → frozen E fz S b ∧ RelC E fz w b base cs := fun {l ver k cs b base cap k0} hl hv => by
      rcases st.ok l _ hl with ⟨h1, _⟩ | ⟨b', base', cap', arr, T, lo, hi, h1, _, _, _, _, h6, _⟩
      · rw [h1] at hv; cases hv
      · rw [h1] at hv; cases hv
        exact ⟨.inr ⟨l, _, hl, by simp [obBlock, h1]⟩, h6⟩
    cases x
    case sl l ver off len =>
      simp only [derefT]
      split
      · rename_i v' k cs hl
        split
        · rename_i he; subst he
          simp only [Rel] at h ⊢
          rcases h with ⟨h1, a, h2⟩ | ⟨b, base, cap, k0, c, h1, h2, h3, h4⟩
          · exact .inl ⟨h1, a, 0, h2⟩
          · obtain ⟨g1, g2⟩ := row hl h1
            exact .inr ⟨b, base + off, c, g1, h2, h4, relC_map ih _ _ ((g2.drop off).take _)⟩
        · exact up _ _ h
      · exact up _ _ h
    case ptr l ver off =>
      simp only [derefT]
      split
      · rename_i v' k cs hl
        split
        · rename_i he; subst he
          simp only [Rel] at h ⊢
          obtain ⟨b, base, cap, k0, h1, h2⟩ := h
          obtain ⟨g1, g2⟩ := row hl h1
          exact ⟨b, base + off, g1, h2, relC_map ih _ _ (g2.drop off)⟩
        · exact up _ _ h
      · exact up _ _ h
    case agg cs =>
      simp only [derefT, Rel] at h ⊢
      obtain ⟨vs, h1, h2, h3⟩ := h
      exact ⟨vs, h1, relL_map ih cs vs h2, h3⟩
    case tup cs =>
      simp only [derefT, Rel] at h ⊢
      obtain ⟨vs, h1, h2⟩ := h
      exact ⟨vs, h1, relL_map ih cs vs h2⟩
    case nils =>
      simp only [derefT, Rel] at h ⊢
      exact .inl ⟨by simp, none, 0, h⟩
    all_goals exact up _ _ h
theorem ACalls.freezeT {P : Program} {f : FuncId} {args : List AVal} {R : AVal → Store → Prop} (n : Nat) (h : ACalls P f args [] (fun r S' => R (derefT S' n r) [])) : ACalls P f args [] R :=
  ⟨fun E fz w vals st hrel => (h.out E fz w vals st hrel).mono fun e w' ⟨r, S', v, E', fz', h1, h2, h3, h4, h5⟩ =>
    ⟨_, [], v, E', frozen E' fz' S', h1, ⟨h2.env, fun b hb => .inl (h2.frz b hb), fun b hb => hb.elim (h2.fznew b) fun ho => .inr (h2.own b ho), h2.keep, fun b ⟨l, o, hl, _⟩ => by simp at hl, h2.size, h2.os, h2.output, h2.tape⟩,
      h3.freeze, derefT_rel h3 n r v h4, h5⟩⟩
section
variable {P : Program} {f : FuncId} {args : List AVal} {r0 : AVal} {S : Store} {m mf : HM} {R : AVal → HM → Prop} {k n : Nat} {x : AVal} {cells : List AVal}
theorem RC.ofT (n : Nat) (h : HC P f args HM.nil R) (hR : ∀ r m' S', R r m' → Has S' m' → derefT S' n r = r0) : RC P f args r0 :=
  ACalls.freezeT n ((h [] HM.nil (by rw [HM.add_nil]; exact Has.nil)).mono fun r S' ⟨m', h1, h2⟩ => hR r m' S' h1 h2.left)
theorem derefT_row {p v off len k : Nat} {cs : List AVal} (hS : Has S (pt p (.row v k cs) + m)) (d : Nat) : derefT S (d + 1) (.sl p v off len) = .ros len ((subL cs off (len * k)).map (derefT S d)) := by
  simp only [derefT]; rw [hS.get]; simp [subL]
theorem SlR.derefT (h : SlR k x cells n m) (hS : Has S (m + mf)) (d : Nat) : Go.Vc.derefT S (d + 1) x = .ros n (cells.map (Go.Vc.derefT S d)) := by
  rcases h with ⟨rfl, rfl, rfl, rfl⟩ | ⟨p, v, off, cs, rfl, rfl, h1, rfl⟩
  · rfl
  · exact derefT_row hS d
theorem derefT_flat (h : ∀ c ∈ cells, Go.Vc.derefT S n c = c) : cells.map (Go.Vc.derefT S n) = cells := (List.map_congr_left h).trans (List.map_id' _)
theorem derefT_str (s : List UInt8) : derefT S n (.str s) = .str s := by cases n <;> rfl
theorem derefT_int (k : IntKind) (a : Int) : derefT S n (.int k a) = .int k a := by cases n <;> rfl
theorem derefT_bool (b : Bool) : derefT S n (.bool b) = .bool b := by cases n <;> rfl
theorem o_again {F : Frame} {K : AVal → Store → Prop} {t l v k n off : Nat} {ag : Bool} {x : Rand} {o : Ob} {g : Ob → HM} {cs xs : List AVal} {r : AVal} (hS : Has S m) (hx : rd F x = .ptr l v off) [i : At m l o g] (ho : o = .row v k cs) (ht : takeN n (cs.drop off) = some xs) (hm : mkF ag xs = some r) (hr : rd F (.t t) = r) (h : K .junk S) : vcOp P F S K (.again t n ag x) := by
  refine rdK_iff.2 (rdK_iff.2 ?_)
  rw [hx, hr]
  refine hS.row ho ?_
  cases k with
  | zero => exact dropK_iff.2 (takeK_iff.2 ⟨xs, ht, mkF_ok hm ⟨rfl, h⟩⟩)
  | succ k => exact ⟨xs, ht, mkF_ok hm ⟨rfl, h⟩⟩
theorem o_againR {F : Frame} {K : AVal → Store → Prop} {t n : Nat} {ag : Bool} {x : Rand} {cs xs : List AVal} {r : AVal} (hx : rd F x = .rop cs) (ht : takeN n cs = some xs) (hm : mkF ag xs = some r) (hr : rd F (.t t) = r) (h : K .junk S) : vcOp P F S K (.again t n ag x) := by
  refine rdK_iff.2 (rdK_iff.2 ?_)
  rw [hx, hr]
  exact takeK_iff.2 ⟨xs, ht, mkF_ok hm ⟨rfl, h⟩⟩
theorem o_min {F : Frame} {K : AVal → Store → Prop} {x y : Rand} {ik : IntKind} {a b : Int} (hx : rd F x = .int ik a) (hy : rd F y = .int ik b) (h : K (.int ik (min a b)) S) : vcOp P F S K (.min [x, y]) := by
  refine rdsK_of ?_
  simp only [List.map_cons, List.map_nil, hx, hy]
  exact ⟨rfl, h⟩
/-- A function that is handed no memory of one's own. -/
theorem HC.useQ {Q : AVal → Prop} {K : AVal → Store → Prop} (h : HC P f args HM.nil fun r _ => Q r) (hK : ∀ r, Q r → K r S) : ACalls P f args S K :=
  ACalls.use (Q := Q) ((h [] HM.nil (by rw [HM.add_nil]; exact Has.nil)).mono fun r S' ⟨m', h1, h2⟩ => h1) hK
theorem SrcOf.ros {cs : List AVal} (h : cs.length = n * k) : SrcOf m k (.ros n cs) n cs := ⟨rfl, by omega, (List.take_of_length_le (by omega)).symm⟩
/-- A list and a plain value, frozen. -/
theorem Con.frozen2 {args : Tys} {t u : Ty} {pre : Ts args → Prop} {fn : Ts args → List (T t) × T u} (h : Con P f ⟨args, [.own t, .val u], pre, fn⟩) (x : Ts args) (hx : pre x) (hu : ∀ S v, derefT S 1 (encA u v) = encA u v) : RC P f (encAs args x) (.tup [encA (.sl t) (fn x).1, encA u (fn x).2]) := by
  refine ACalls.freezeT 2 (ACallsMono (h.2 x hx) fun r S' hr => ?_)
  obtain ⟨ys, h1, rfl⟩ := hr
  rcases h1 with ⟨v, ys', S1, rfl, rfl, h2⟩ | ⟨h0, ys', rfl, h2⟩
  · obtain ⟨ys2, rfl, rfl, rfl⟩ := h2
    show AVal.tup [derefT _ 1 _, derefT _ 1 _] = _
    have hl : ∀ l : List (T t), (l.flatMap (encT t)).length = l.length * szT t := fun l => by
      induction l with
      | nil => simp
      | cons a l ih => rw [List.flatMap_cons, List.length_append, ih, encT_length, List.length_cons, Nat.add_mul]; omega
    have e := hl (fn x).1
    congr 1
    congr 1
    · simp only [derefT, List.getElem?_cons_zero, if_pos, List.drop_zero]
      show AVal.ros (fn x).1.length ((((fn x).1.flatMap (encT t)).take ((fn x).1.length * szT t)).map (fun y => y)) = _
      rw [List.map_id', List.take_of_length_le (by omega)]
      rfl
    · congr 1
      exact hu _ _
  · obtain ⟨ys2, rfl, rfl, rfl⟩ := h2
    show AVal.tup [derefT _ 1 _, derefT _ 1 _] = _
    have h0 : (fn x).1 = [] := h0
    congr 1
    congr 1
    · rw [h0]; rfl
    · congr 1
      exact hu _ _
end
end Go.Vc
