/-
  Further operations: a slice held against nil, zero values over a slice, a slice made at a place that was kept for it.
-/
import Derived.Test.YtigcaalfadoiaaaVxK
import Derived.Laws.Cover3
import Derived.Laws.CopyRow
set_option linter.unusedVariables false
set_option linter.unusedSimpArgs false
namespace Go.Vc
section
variable {P : Program} {E : Env} {fz : Nat → Prop} {S : Store} {w : World} {F : Frame} {a : Act} {K : AVal → Store → Prop} {ro : Bool}

theorem isnil_sound (st : St E fz S w) (hF : RelF E fz w F a.tmps) {o : Oper} {op : BinOp} {t u e : TypeId} {x : Operand} {rx : Rand} {neg : Bool} (ho : o.op = .binOp op t x (.const (.slice none 0 0)) u) (ht : P.underlying t = some (.slice e)) (hx : cRand x = some rx)
    (hop : (op = .eql ∧ neg = false) ∨ (op = .neq ∧ neg = true)) (h : vcOp P F S K (.isnil neg rx)) : RunsTo P ((execOp a.eval o).run P w) (Post K E fz S w) := by
  have h1 := eval_rel hF hx
  simp only [vcOp, rdK_iff] at h
  generalize rd F rx = X at *
  have fin : ∀ {ao : Option Addr} {n c : Nat}, a.eval x = .slice ao n c → K (.bool (ao.isNone != neg)) S → RunsTo P ((execOp a.eval o).run P w) (Post K E fz S w) := fun {ao n c} hv hk => by
    refine runs_pure st (v := .bool (ao.isNone != neg)) ?_ hk (by simp [Rel])
    have e2 : a.eval (.const (.slice none 0 0)) = .slice none 0 0 := rfl
    have hg : (eqGuard op t x (.const (.slice none 0 0)) (.slice ao n c) (.slice none 0 0)).run P w = .ok () w := by
      rcases hop with ⟨rfl, _⟩ | ⟨rfl, _⟩ <;> exact Sem.run_pure P w ()
    rcases hop with ⟨rfl, rfl⟩ | ⟨rfl, rfl⟩
    · have hr : (binOp .eql t (.slice ao n c) (.slice none 0 0)).run P w = .ok (.bool (ao.isNone != false)) w := by
        simp only [binOp]
        simp [run_equal_slice_nil w t e ao n c ht]
      simp only [execOp, ho, hv, e2]
      simp only [Sem.run_bind, hg, hr, Result.andThen_ok, Sem.run_pure]
    · have hr : (binOp .neq t (.slice ao n c) (.slice none 0 0)).run P w = .ok (.bool (ao.isNone != true)) w := by
        rw [run_neq_slice_nil w t e ao n c ht]; cases ao <;> rfl
      simp only [execOp, ho, hv, e2]
      simp only [Sem.run_bind, hg, hr, Result.andThen_ok, Sem.run_pure]
  cases X <;> first | exact h.elim | skip
  case nils =>
    simp only [Rel] at h1
    exact fin h1 (by simpa using h)
  case ros n cs =>
    simp only [Rel] at h1
    rcases h1 with ⟨hn, ao, c, e1⟩ | ⟨b, off, c, _, _, e1, _⟩
    · exact fin e1 (h _ fun _ => hn)
    · exact fin e1 (h _ fun e => by simp at e)
  case sl l v off n =>
    simp only [Rel] at h1
    rcases h1 with ⟨hn, ao, e1⟩ | ⟨b, base, cap, k, c, _, _, _, e1⟩
    · exact fin e1 (h _ fun _ => hn)
    · exact fin e1 (h _ fun e => by simp at e)

/-- A new block at a place that was kept for it. -/
theorem new_at (st : St E fz S w) {l : Nat} (hd : S[l]? = some .dead) {cs : List AVal} {vs rest : List Value} {T : TypeId} (k : Nat) (hr : RelL E fz w cs vs) (h1 : ∀ c ∈ vs, c.oneCell' = true)
    {w' : World} (hw : w'.heap = w.heap.push (.cells (vs ++ rest).toArray T (0, 0))) (g1 : w'.os = w.os) (g2 : w'.output = w.output) (g3 : w'.tape = w.tape) :
    ∃ ver E', E' ver = some (.real w.heap.size 0 (vs ++ rest).length k) ∧ St E' fz (S.set l (.row ver k cs)) w' ∧ Ext E fz S w E' fz (S.set l (.row ver k cs)) w' := by
  obtain ⟨n, hn⟩ := st.fresh
  have hll : l < S.length := (List.getElem?_eq_some_iff.1 hd).1
  have hE : ∀ v x, E v = some x → (fun v => if v = n then some (Bk.real w.heap.size 0 (vs ++ rest).length k) else E v) v = some x := fun v x hx => by
    have : v ≠ n := fun e => by subst e; rw [hn v (Nat.le_refl _)] at hx; cases hx
    simp [this, hx]
  have hlt : ∀ b : Nat, b < w.heap.size → w'.heap[b]? = w.heap[b]? := fun b hb => by
    rw [hw, Array.getElem?_push, if_neg (by omega)]
  have hnew : w'.heap[w.heap.size]? = some (.cells (vs ++ rest).toArray T (0, 0)) := by rw [hw]; simp
  refine ⟨n, fun v => if v = n then some (.real w.heap.size 0 (vs ++ rest).length k) else E v, by simp,
    st.upd l (.row n k cs) hE ⟨n + 1, fun v hv => by simp [hn v (by omega), show v ≠ n by omega]⟩ (fun l' hl' => by rw [List.getElem?_set_ne (fun e => hl' e.symm)]) (by rw [List.getElem?_set_self hll]) (by rw [hw]; simp) (fun b hb _ => hlt b hb) (fun b hb => .inr ?_) ?_ g1 g2 g3⟩
  · simp [obBlock] at hb; omega
  · refine .inr ⟨w.heap.size, 0, (vs ++ rest).length, (vs ++ rest).toArray, T, 0, 0, by simp, hnew, by simp, ?_, fun j _ => by omega, ?_, fun hf => ?_⟩
    · have := hr.length; simp; omega
    · refine RelC.mk fun i x hx => ?_
      obtain ⟨v, hv, hrel⟩ := hr.get hx
      have hil : i < vs.length := by
        rcases Nat.lt_or_ge i vs.length with h | h
        · exact h
        · simp [List.getElem?_eq_none h] at hv
      refine ⟨v, ?_, h1 v (List.mem_of_getElem? hv), hrel.mono hE (fun _ h => h) (fun b hb => hlt b (st.fzlt b hb))⟩
      rw [cell_mk hnew]
      simp [List.getElem?_append_left hil, hv]
    · have := st.fzlt _ hf; omega

theorem mkres_sound (st : St E fz S w) (hF : RelF E fz w F a.tmps) {o : Oper} {t e : TypeId} {x y : Operand} {rx ry : Rand} {n b d : Nat} {z : List AVal} (ho : o.op = .makeSlice t x y) (ht : P.underlying t = some (.slice e)) (hn : tSize P e = some n) (hb : tBytes P e = some b) (hz : tZero P e = some z) (h0 : 0 < n) (hb0 : 0 < b) (hzl : z.length = n) (hx : cRand x = some rx) (hy : cRand y = some ry)
    (h : vcOp P F S K (.mkres d n b z rx ry)) : RunsTo P ((execOp a.eval o).run P w) (Post K E fz S w) := by
  have hr1 := eval_rel hF hx
  have hr2 := eval_rel hF hy
  simp only [vcOp, rdK_iff] at h
  obtain ⟨k, m, ex, hyx, hm, hd0, hdl, hdead, hk⟩ := wIdx_iff h
  rw [hyx, ex] at hr2
  rw [ex] at hr1
  simp only [Rel] at hr1 hr2
  have hzz : ∃ i zv, P.info? e = some i ∧ i.zero = some zv ∧ absL zv.cells.toList = some z ∧ i.size = n ∧ i.bytes = b := by
    unfold tZero at hz
    unfold tSize at hn
    unfold tBytes at hb
    split at hz
    · rename_i i hi
      rw [hi] at hn hb
      split at hz
      · rename_i zv hzv
        exact ⟨i, zv, hi, hzv, hz, by simpa using hn, by simpa using hb⟩
      · cases hz
    · cases hz
  obtain ⟨i, zv, hi, hzv, hab, hsz, hby⟩ := hzz
  have hmm : m ≤ b * m := Nat.le_mul_of_pos_left m hb0
  have hrun := run_make (P := P) w t e i zv ht hi hzv k k (m : Int) (m : Int) (by omega) (Int.le_refl _) (by rw [hby, ← Int.natCast_mul]; omega) (by omega)
  have hrel := absL_rel (E := E) (fz := fz) (w := w) hab
  obtain ⟨g1, g2⟩ := made_rel hrel.1 hrel.2 (by omega) m
  rw [hzl] at g1 g2
  obtain ⟨ver, E', q1, q2, q3⟩ := new_at (w' := w.alloc (.cells (madeCells zv.cells (m * n)) e)) st hdead (rest := []) (T := e) n g1 g2 (by rw [List.append_nil]; rfl) rfl rfl rfl
  have hlen : (madeCells zv.cells (m * n)).toList.length = m * n := by simp [madeCells]
  refine runs_of st (v := .slice (some ⟨w.heap.size, 0, none⟩) m m) (w' := w.alloc (.cells (madeCells zv.cells (m * n)) e)) ?_ ⟨.sl (S.length - d) ver 0 m, _, E', fz, hk ver, q3, q2, ?_⟩
  · simp only [execOp, ho, hr1, hr2]
    simp only [Int.toNat_natCast, hsz] at hrun
    simp [hrun]
  · simp only [Rel]
    refine .inr ⟨_, _, _, _, m, q1, Nat.le_refl _, ?_, rfl⟩
    simp [hlen]

theorem clear_sound (st : St E fz S w) (hF : RelF E fz w F a.tmps) {o : Oper} {c : Call} {r : Rand} {t e : TypeId} {n : Nat} {z : List AVal} (ho : o.op = .call c) (hc : c.callee = .builtin .clear) (hargs : cRands c.args.toList = some [r])
    (ht : c.argTypes[0]? = some t) (hu : P.underlying t = some (.slice e)) (hn : tSize P e = some n) (hz : tZero P e = some z) (h0 : 0 < n) (hzl : z.length = n)
    (h : vcOp P F S K (.clear n z r)) : RunsTo P ((execOp a.eval o).run P w) (Post K E fz S w) := by
  have h1 := evals_rel hF hargs
  simp only [List.map_cons, List.map_nil, RelL] at h1
  obtain ⟨v, us, e1, hr, rfl⟩ := h1
  have e2 : (c.args.map a.eval)[0]? = some v := by rw [← Array.getElem?_toList, Array.toList_map, e1]; rfl
  simp only [vcOp, rdK_iff] at h
  generalize rd F r = X at *
  have hzz : ∃ i zv, P.info? e = some i ∧ i.zero = some zv ∧ absL zv.cells.toList = some z ∧ i.size = n := by
    unfold tZero at hz
    unfold tSize at hn
    split at hz
    · rename_i i hi
      rw [hi] at hn
      split at hz
      · rename_i zv hzv
        exact ⟨i, zv, hi, hzv, hz, by simpa using hn⟩
      · cases hz
    · cases hz
  obtain ⟨i, zv, hi, hzv, hab, hsz⟩ := hzz
  have go : ∀ {w' : World} {S' : Store}, (Builtin.clear_ c.argTypes o.type (c.args.map a.eval)).run P w = .ok (.tuple #[]) w' → Ext E fz S w E fz S' w' → St E fz S' w' → K .junk S' → RunsTo P ((execOp a.eval o).run P w) (Post K E fz S w) := fun {w' S'} hrun hx hs hk => by
    refine runs_of st (v := .tuple #[]) (w' := w') ?_ ⟨.junk, S', E, fz, hk, hx, hs, by simp [Rel]⟩
    simp [execOp, ho, resolve, hc, invoke, builtin, hrun]
  have zero : ∀ {ao : Option Addr} {c' : Nat}, v = .slice ao 0 c' → (Builtin.clear_ c.argTypes o.type (c.args.map a.eval)).run P w = .ok (.tuple #[]) w := fun {ao c'} hv => by
    subst hv
    cases ao <;> simp [Builtin.clear_, ht, e2, run_underlying hu]
  have same : ∀ {l ver k : Nat} {cs : List AVal} {off : Nat}, S[l]? = some (.row ver k cs) → S.set l (.row ver k (setCells cs off [])) = S := fun {l ver k cs off} hl => by
    have : setCells cs off [] = cs := by
      clear hl
      induction cs generalizing off with
      | nil => cases off <;> rfl
      | cons c cs ih => cases off with
        | zero => rfl
        | succ off => simp only [setCells]; rw [ih]
    rw [this]
    exact List.ext_getElem? fun i => by
      rw [List.getElem?_set]
      split
      · rename_i e; subst e; split
        · exact hl.symm
        · rename_i hh; rw [List.getElem?_eq_none (by omega)] at hl; cases hl
      · rfl
  cases X <;> first | exact h.elim | skip
  case nils =>
    simp only [Rel] at hr
    exact go (zero hr) .refl st h
  case sl l ver off m =>
    simp only at h
    obtain ⟨k', cs, hl, hk', hfit, hs⟩ := wRow_iff.1 h
    subst hk'
    rw [wSet_iff] at hs
    simp only [Rel] at hr
    rcases Nat.eq_zero_or_pos m with hm | hm
    · subst hm
      have hv : ∃ ao c', v = .slice ao 0 c' := by
        rcases hr with ⟨_, ao, e⟩ | ⟨_, _, _, _, c', _, _, _, e⟩
        · exact ⟨ao, 0, e⟩
        · exact ⟨_, c', e⟩
      obtain ⟨ao, c', hv⟩ := hv
      have e3 := same (off := off) hl
      refine go (zero hv) .refl st ?_
      have := hs.2
      simpa [e3] using this
    · rcases hr with ⟨hm0, _⟩ | ⟨b, base, cap, kk, c', hE, _, _, hv⟩
      · omega
      · have hrel := absL_rel (E := E) (fz := fz) (w := w) hab
        obtain ⟨g1, g2⟩ := made_rel hrel.1 hrel.2 (by omega) m
        rw [hzl] at g1 g2
        have hzs : zv.cells.size = k' := by have := hrel.1.length; simp at this; omega
        obtain ⟨w', q1, q2, q3⟩ := put_cells (P := P) (off := off) st hl (by rw [flatten_rep_length, hzl]; exact hfit) (fun e => by
          have := congrArg List.length e
          rw [flatten_rep_length, hzl] at this
          have := Nat.mul_pos hm h0
          simp at *; omega) g1 g2 hE
        refine go ?_ q3 q2 hs.2
        subst hv
        have hzv' : (zeroValue e).run P w = .ok zv w := by simp [zeroValue, run_info hi, hzv]
        have hcells : (Builtin.zeroCells zv.cells m).toList = (madeCells zv.cells (m * k')).toList := by
          simp [Builtin.zeroCells, madeCells, hzs]
        obtain ⟨m', rfl⟩ : ∃ m', m = m' + 1 := ⟨m - 1, by omega⟩
        rw [← hcells] at q1
        simp [Builtin.clear_, ht, e2, run_underlying hu, hzv', q1]
end
end Go.Vc
