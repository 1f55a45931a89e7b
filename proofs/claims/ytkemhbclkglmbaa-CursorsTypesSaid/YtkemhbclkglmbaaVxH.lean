/-
  The conditions are enough: addresses, loads, stores, new rows, appended rows.
-/
import Derived.Test.YtkemhbclkglmbaaVxG
set_option linter.unusedVariables false
set_option linter.unusedSimpArgs false
namespace Go.Vc
section
variable {P : Program} {E : Env} {fz : Nat → Prop} {S : Store} {w : World} {F : Frame} {a : Act} {K : AVal → Store → Prop} {ro : Bool}

theorem runs_of (st : St E fz S w) {o : Oper} {v : Value} {w' : World} (h : (execOp a.eval o).run P w = .ok (.value v) w') (hp : Post K E fz S w v w') :
    RunsTo P ((execOp a.eval o).run P w) (Post K E fz S w) := by rw [h]; exact hp

theorem run_info {t : TypeId} {i : TypeInfo} (h : P.info? t = some i) (w : World) : (typeInfo t).run P w = .ok i w := by
  simp [typeInfo, h]
theorem run_size {t : TypeId} {n : Nat} (h : tSize P t = some n) (w : World) : (sizeOf t).run P w = .ok n w := by
  unfold tSize at h
  split at h
  · rename_i i hi; cases h; simp [sizeOf, run_info hi]
  · cases h
theorem run_zero {t : TypeId} {z : List AVal} (h : tZero P t = some z) (w : World) : ∃ v : Value, (zeroValue t).run P w = .ok v w ∧ (∀ E fz w, RelL E fz w z v.cells.toList) ∧ ∀ c ∈ v.cells.toList, c.oneCell' = true := by
  unfold tZero at h
  split at h
  · rename_i i hi
    split at h
    · rename_i v hv
      exact ⟨v, by simp [zeroValue, run_info hi, hv], fun E fz w => (absL_rel h).1, (absL_rel (E := fun _ => none) (fz := fun _ => False) (w := w) h).2⟩
    · cases h
  · cases h
theorem run_isAgg {t : TypeId} {u : TypeDesc} (h : P.underlying t = some u) (w : World) : (isAgg t).run P w = .ok (isAggD u) w := by
  simp only [isAgg, Sem.run_bind, run_underlying h, Result.andThen_ok]
  cases u <;> rfl

/-- A new variable, whatever made its cells. -/
theorem newVar_post (st : St E fz S w) {cs : List AVal} {v : Value} {T : TypeId} {k : Nat} (hr : RelL E fz w cs v.cells.toList) (h1 : ∀ c ∈ v.cells.toList, c.oneCell' = true)
    (h : ∀ ver, K (.ptr S.length ver 0) (S ++ [.row ver k cs])) : Post K E fz S w (.pointer (some ⟨w.heap.size, 0, none⟩)) (w.alloc (.cells v.cells T)) := by
  obtain ⟨ver, E', g1, g2, g3⟩ := new_row (w' := w.alloc (.cells v.cells T)) st (rest := []) (T := T) k hr h1 (by rw [List.append_nil]; rfl) rfl rfl ⟨rfl, Nat.le_refl _⟩
  refine ⟨.ptr S.length ver 0, _, E', fz, h ver, g3, g2, ?_⟩
  simp only [Rel]
  exact ⟨_, _, _, _, g1, rfl⟩

theorem alloc_sound (st : St E fz S w) {o : Oper} {t : TypeId} {z : List AVal} {k : Nat} (ho : o.op = .alloc t) (hz : tZero P t = some z)
    (h : vcOp P F S K (.alloc k z)) : RunsTo P ((execOp a.eval o).run P w) (Post K E fz S w) := by
  simp only [vcOp, wPush_iff] at h
  obtain ⟨v, g1, g2, g3⟩ := run_zero hz w
  exact runs_of st (by simp [execOp, ho, Instr.alloc, g1, newVar, newRow]; rfl) (newVar_post st (g2 E fz w) g3 h)

theorem box_sound (st : St E fz S w) (hF : RelF E fz w F a.tmps) {o : Oper} {t : TypeId} {x : Operand} {r : Rand} {k : Nat} (ho : o.op = .box t x) (hx : cRand x = some r)
    (h : vcOp P F S K (.box k r)) : RunsTo P ((execOp a.eval o).run P w) (Post K E fz S w) := by
  simp only [vcOp, rdK_iff, wPush_iff] at h
  obtain ⟨cs, h1, h2, h3⟩ := wCells_rel h (eval_rel hF hx)
  exact runs_of st (by simp [execOp, ho, Instr.box, newVar, newRow]; rfl) (newVar_post st h2 h3 h1)

/-! ### Loads -/
theorem wLoad_rel (st : St E fz S w) {n : Nat} {ag : Bool} {x : AVal} {v : Value} {Q : AVal → Prop} (h : wLoad S n ag x Q) (hr : Rel E fz w x v) :
    ∃ b off, v = .pointer (some ⟨b, off, none⟩) ∧ ∃ (xs : List AVal) (vs : List Value), xs.length = n ∧ RelL E fz w xs vs ∧ (∀ c ∈ vs, c.oneCell' = true) ∧
      (loadCells ⟨b, off, none⟩ n).run P w = .ok vs.toArray w ∧ (∀ (j : Nat) v, vs[j]? = some v → w.cell? ⟨b, off + j, none⟩ = some v) ∧ mkVK ag xs Q := by
  have fin : ∀ {b off : Nat} {cs xs : List AVal}, RelC E fz w b off cs → takeN n cs = some xs → mkVK ag xs Q → ∃ (xs : List AVal) (vs : List Value), xs.length = n ∧ RelL E fz w xs vs ∧ (∀ c ∈ vs, c.oneCell' = true) ∧
      (loadCells ⟨b, off, none⟩ n).run P w = .ok vs.toArray w ∧ (∀ (j : Nat) v, vs[j]? = some v → w.cell? ⟨b, off + j, none⟩ = some v) ∧ mkVK ag xs Q := fun {b off cs xs} hc ht hk => by
    obtain ⟨e, hl⟩ := takeN_eq ht
    have hlen : xs.length = n := by rw [e]; simp; omega
    have hc' : RelC E fz w b off xs := e ▸ hc.take n
    obtain ⟨vs, g1, g2, g3, g4⟩ := run_load_cells (P := P) hc'
    rw [hlen] at g3
    exact ⟨xs, vs, hlen, g1, g2, g3, g4, hk⟩
  cases x <;> simp only [wLoad] at h
  case ptr l ver off =>
    obtain ⟨k, cs, hl, h⟩ := wRow_iff.1 h
    have h' : ∃ xs, takeN n (cs.drop off) = some xs ∧ mkVK ag xs Q := by
      cases k with
      | zero => simpa only [dropK_iff, takeK_iff] using h
      | succ k => exact h
    obtain ⟨xs, ht, hk⟩ := h'
    simp only [Rel] at hr
    obtain ⟨b, base, cap, kk, hE, rfl⟩ := hr
    refine ⟨b, base + off, rfl, ?_⟩
    rcases st.ok l _ hl with ⟨g1, g2⟩ | ⟨b', base', cap', arr, T, lo, hi, g1, g2, g3, g4, g5, g6, g7⟩
    · rw [hE] at g1; cases g1
    · rw [hE] at g1; cases g1
      exact fin (g6.drop off) ht hk
  case rop cs =>
    simp only [takeK_iff] at h
    obtain ⟨xs, ht, hk⟩ := h
    simp only [Rel] at hr
    obtain ⟨b, off, _, rfl, hc⟩ := hr
    exact ⟨b, off, rfl, fin hc ht hk⟩

theorem load_sound (st : St E fz S w) (hF : RelF E fz w F a.tmps) {o : Oper} {t : TypeId} {x : Operand} {r : Rand} {i : TypeInfo} {u : TypeDesc} (ho : o.op = .load t x) (hi : P.info? t = some i) (hu : P.underlying t = some u) (hx : cRand x = some r)
    (h : vcOp P F S K (if isAggD u then .load i.size true r else .load 1 false r)) : RunsTo P ((execOp a.eval o).run P w) (Post K E fz S w) := by
  have hr := eval_rel hF hx
  cases hag : isAggD u
  · rw [hag] at h
    simp only [Bool.false_eq_true, if_false, vcOp, rdK_iff] at h
    obtain ⟨b, off, e, xs, vs, g1, g2, g3, g4, g5, hk⟩ := wLoad_rel (P := P) st h hr
    rcases mkVK_iff.1 hk with ⟨h0, _⟩ | ⟨_, y, rfl, hk⟩
    · cases h0
    · simp only [RelL] at g2
      obtain ⟨v, us, rfl, hv, rfl⟩ := g2
      have hc := g5 0 v rfl
      refine runs_pure st (v := v) ?_ hk hv
      simp [execOp, ho, e, Instr.loadAt, Instr.sureAddr, loadVar, run_isAgg hu, hag, hc]
      simpa using hc ▸ rfl
  · rw [hag] at h
    simp only [if_true, vcOp, rdK_iff] at h
    obtain ⟨b, off, e, xs, vs, g1, g2, g3, g4, g5, hk⟩ := wLoad_rel (P := P) st h hr
    rcases mkVK_iff.1 hk with ⟨_, hk⟩ | ⟨h0, _⟩
    · refine runs_pure st (v := .agg vs.toArray) ?_ hk ?_
      · simp [execOp, ho, e, Instr.loadAt, Instr.sureAddr, loadVar, run_isAgg hu, hag, sizeOf, run_info hi, g4]
      · simp only [Rel]; exact ⟨vs, rfl, g2, g3⟩
    · cases h0

theorem store_sound (st : St E fz S w) (hF : RelF E fz w F a.tmps) {o : Oper} {t : TypeId} {x y : Operand} {rx ry : Rand} {n : Nat} (ho : o.op = .store t x y) (hn : tSize P t = some n) (h0 : n ≠ 0) (hx : cRand x = some rx) (hy : cRand y = some ry)
    (h : vcOp P F S K (.store n rx ry)) : RunsTo P ((execOp a.eval o).run P w) (Post K E fz S w) := by
  have hr1 := eval_rel hF hx
  have hr2 := eval_rel hF hy
  simp only [vcOp, rdK_iff] at h
  generalize rd F rx = X at *
  cases X <;> first | exact h.elim | skip
  case ptr l ver off =>
    simp only at h
    obtain ⟨k, cs, hl, h⟩ := wRow_iff.1 h
    obtain ⟨ys, ⟨hlen, hfit, hk⟩, hys, hone⟩ := wCells_rel h hr2
    simp only [setRowK_iff, wSet_iff] at hk
    simp only [Rel] at hr1
    obtain ⟨b, base, cap, kk, hE, e⟩ := hr1
    obtain ⟨w', q1, q2, q3⟩ := put_cells (P := P) (off := off) st hl (by omega) (fun e => by subst e; simp at hlen; omega) hys hone hE
    have hsz : (a.eval y).cells.size = n := by have := hys.length; simp at this; omega
    have hrun : (execOp a.eval o).run P w = .ok .skip w' := by
      simp [execOp, ho, e, Instr.storeAt, Instr.sureAddr, storeVar, run_size hn, hsz, q1]
    rw [hrun]
    exact ⟨.junk, _, E, fz, hk.2, q3, q2, by simp [Rel]⟩

/-! ### Addresses -/
theorem faddr_sound (st : St E fz S w) (hF : RelF E fz w F a.tmps) {o : Oper} {s : TypeId} {x : Operand} {r : Rand} {f n : Nat} {fs : Array Field} {fd : Field} (ho : o.op = .fieldAddr s x f) (hs : P.underlying s = some (.struct fs)) (hf : fs[f]? = some fd) (hn : tSize P fd.type = some (n + 1)) (hx : cRand x = some r)
    (h : vcOp P F S K (.faddr fd.offset r)) : RunsTo P ((execOp a.eval o).run P w) (Post K E fz S w) := by
  have hr := eval_rel hF hx
  simp only [vcOp, rdK_iff] at h
  generalize rd F r = X at *
  have go : ∀ {b off : Nat} {y : AVal}, a.eval x = .pointer (some ⟨b, off, none⟩) → K y S → Rel E fz w y (.pointer (some ⟨b, off + fd.offset, none⟩)) → RunsTo P ((execOp a.eval o).run P w) (Post K E fz S w) := fun {b off y} e hk hrel => by
    refine runs_pure st ?_ hk hrel
    simp [execOp, ho, Instr.fieldAt, run_underlying hs, hf, e, Instr.sureAddr, fieldPlace, run_size hn, add_mk]
  cases X <;> first | exact h.elim | skip
  case ptr l ver off =>
    simp only [Rel] at hr
    obtain ⟨b, base, cap, k, hE, e⟩ := hr
    exact go e h (by simp only [Rel]; exact ⟨b, base, cap, k, hE, by rw [Nat.add_assoc]⟩)
  case rop cs =>
    simp only [dropK_iff] at h
    simp only [Rel] at hr
    obtain ⟨b, off, hb, e, hc⟩ := hr
    exact go e h (by simp only [Rel]; exact ⟨b, off + fd.offset, hb, rfl, hc.drop _⟩)

theorem field_sound (st : St E fz S w) (hF : RelF E fz w F a.tmps) {o : Oper} {s : TypeId} {x : Operand} {r : Rand} {f n : Nat} {fs : Array Field} {fd : Field} {u : TypeDesc} (ho : o.op = .field s x f) (hs : P.underlying s = some (.struct fs)) (hf : fs[f]? = some fd) (hu : P.underlying fd.type = some u) (hn : tSize P fd.type = some n) (hx : cRand x = some r)
    (h : vcOp P F S K (if isAggD u then .field fd.offset n true r else .field fd.offset 1 false r)) : RunsTo P ((execOp a.eval o).run P w) (Post K E fz S w) := by
  have hr := eval_rel hF hx
  cases hag : isAggD u
  · rw [hag] at h
    simp only [Bool.false_eq_true, if_false, vcOp, rdK_iff] at h
    generalize rd F r = X at *
    cases X <;> first | exact h.elim | skip
    simp only [dropK_iff, takeK_iff] at h
    obtain ⟨xs, ht, hk⟩ := h
    rcases mkVK_iff.1 hk with ⟨h0, _⟩ | ⟨_, y, rfl, hk⟩
    · cases h0
    · simp only [Rel] at hr
      obtain ⟨vs, e, hl, hone⟩ := hr
      obtain ⟨e2, hle⟩ := takeN_eq ht
      rename_i cs _ _
      have hy : cs[fd.offset]? = some y := by
        have := congrArg (·[0]?) e2
        simp [List.getElem?_take, List.getElem?_drop] at this
        exact this.symm
      obtain ⟨v, hv, hrel⟩ := hl.get hy
      exact runs_pure st (by simp [execOp, ho, Instr.field, run_underlying hs, hf, e, asAgg, part, run_isAgg hu, hag, hv]) hk hrel
  · rw [hag] at h
    simp only [if_true, vcOp, rdK_iff] at h
    generalize rd F r = X at *
    cases X <;> first | exact h.elim | skip
    simp only [dropK_iff, takeK_iff] at h
    obtain ⟨xs, ht, hk⟩ := h
    rcases mkVK_iff.1 hk with ⟨_, hk⟩ | ⟨h0, _⟩
    · simp only [Rel] at hr
      obtain ⟨vs, e, hl, hone⟩ := hr
      obtain ⟨e2, hle⟩ := takeN_eq ht
      refine runs_pure st (v := .agg ((vs.drop fd.offset).take n).toArray) ?_ hk ?_
      · simp [execOp, ho, Instr.field, run_underlying hs, hf, e, asAgg, part, run_isAgg hu, hag, run_size hn]
      · simp only [Rel]
        exact ⟨_, rfl, e2 ▸ (hl.drop _).take _, fun c hc => hone c (List.mem_of_mem_drop (List.mem_of_mem_take hc))⟩
    · cases h0
end
end Go.Vc
