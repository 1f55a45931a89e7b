/-
  Further operations: a slice held against nil, zero values over a slice, a slice made at a place that was kept for it.
-/
import Derived.Test.YtkemhbclkglmbaaVxK
import Derived.Laws.IdiomStrings
import Derived.Laws.Cover3
import Derived.Laws.CopyRow
set_option linter.unusedVariables false
set_option linter.unusedSimpArgs false
namespace Go.Vc
section
variable {P : Program} {E : Env} {fz : Nat → Prop} {S : Store} {w : World} {F : Frame} {a : Act} {K : AVal → Store → Prop} {ro : Bool}

theorem isnil_sound (st : St E fz S w) (hF : RelF E fz w F a.tmps) {o : Oper} {op : BinOp} {t u e : TypeId} {x : Operand} {rx : Rand} {neg : Bool} (ho : o.op = .binOp op t x (.const (.slice none 0 0)) u) (ht : P.underlying t = some (.slice e)) (hx : cRand x = some rx)
    (hop : (op = .eql ∧ neg = false) ∨ (op = .neq ∧ neg = true)) (h : vcOp P F S K (.isnil neg rx)) : RunsTo P ((execOp a.eval o).run P w) (Post K E fz S w) := by
  have h1 := eval_rel hF hx
  simp only [vcOp, rdK_iff] at h
  generalize rd F rx = X at *
  have fin : ∀ {ao : Option Addr} {n c : Nat}, a.eval x = .slice ao n c → K (.bool (ao.isNone != neg)) S → RunsTo P ((execOp a.eval o).run P w) (Post K E fz S w) := fun {ao n c} hv hk => by
    refine runs_pure st (v := .bool (ao.isNone != neg)) ?_ hk (by simp [Rel])
    have e2 : a.eval (.const (.slice none 0 0)) = .slice none 0 0 := rfl
    have hg : (eqGuard op t x (.const (.slice none 0 0)) (.slice ao n c) (.slice none 0 0)).run P w = .ok () w := by
      rcases hop with ⟨rfl, _⟩ | ⟨rfl, _⟩ <;> exact Sem.run_pure P w ()
    rcases hop with ⟨rfl, rfl⟩ | ⟨rfl, rfl⟩
    · have hr : (binOp .eql t (.slice ao n c) (.slice none 0 0)).run P w = .ok (.bool (ao.isNone != false)) w := by
        simp only [binOp]
        simp [run_equal_slice_nil w t e ao n c ht]
      simp only [execOp, ho, hv, e2]
      simp only [Sem.run_bind, hg, hr, Result.andThen_ok, Sem.run_pure]
    · have hr : (binOp .neq t (.slice ao n c) (.slice none 0 0)).run P w = .ok (.bool (ao.isNone != true)) w := by
        rw [run_neq_slice_nil w t e ao n c ht]; cases ao <;> rfl
      simp only [execOp, ho, hv, e2]
      simp only [Sem.run_bind, hg, hr, Result.andThen_ok, Sem.run_pure]
  cases X <;> first | exact h.elim | skip
  case nils =>
    simp only [Rel] at h1
    exact fin h1 (by simpa using h)
  case ros n cs =>
    simp only [Rel] at h1
    rcases h1 with ⟨hn, ao, c, e1⟩ | ⟨b, off, c, _, _, e1, _⟩
    · exact fin e1 (h _ fun _ => hn)
    · exact fin e1 (h _ fun e => by simp at e)
  case sl l v off n =>
    simp only [Rel] at h1
    rcases h1 with ⟨hn, ao, e1⟩ | ⟨b, base, cap, k, c, _, _, _, e1⟩
    · exact fin e1 (h _ fun _ => hn)
    · exact fin e1 (h _ fun e => by simp at e)

/-- A new block at a place that was kept for it. -/
theorem new_at (st : St E fz S w) {l : Nat} (hd : S[l]? = some .dead) {cs : List AVal} {vs rest : List Value} {T : TypeId} (k : Nat) (hr : RelL E fz w cs vs) (h1 : ∀ c ∈ vs, c.oneCell' = true)
    {w' : World} (hw : w'.heap = w.heap.push (.cells (vs ++ rest).toArray T (0, 0))) (g1 : w'.os = w.os) (g2 : w'.output = w.output) (g3 : Tp w w') :
    ∃ ver E', E' ver = some (.real w.heap.size 0 (vs ++ rest).length k) ∧ St E' fz (S.set l (.row ver k cs)) w' ∧ Ext E fz S w E' fz (S.set l (.row ver k cs)) w' := by
  obtain ⟨n, hn⟩ := st.fresh
  have hll : l < S.length := (List.getElem?_eq_some_iff.1 hd).1
  have hE : ∀ v x, E v = some x → (fun v => if v = n then some (Bk.real w.heap.size 0 (vs ++ rest).length k) else E v) v = some x := fun v x hx => by
    have : v ≠ n := fun e => by subst e; rw [hn v (Nat.le_refl _)] at hx; cases hx
    simp [this, hx]
  have hlt : ∀ b : Nat, b < w.heap.size → w'.heap[b]? = w.heap[b]? := fun b hb => by
    rw [hw, Array.getElem?_push, if_neg (by omega)]
  have hnew : w'.heap[w.heap.size]? = some (.cells (vs ++ rest).toArray T (0, 0)) := by rw [hw]; simp
  refine ⟨n, fun v => if v = n then some (.real w.heap.size 0 (vs ++ rest).length k) else E v, by simp,
    st.upd l (.row n k cs) hE ⟨n + 1, fun v hv => by simp [hn v (by omega), show v ≠ n by omega]⟩ (fun l' hl' => by rw [List.getElem?_set_ne (fun e => hl' e.symm)]) (by rw [List.getElem?_set_self hll]) (by rw [hw]; simp) (fun b hb _ => hlt b hb) (fun b hb => .inr ?_) ?_ g1 g2 g3⟩
  · simp [obBlock] at hb; omega
  · refine .inr ⟨w.heap.size, 0, (vs ++ rest).length, (vs ++ rest).toArray, T, 0, 0, by simp, hnew, by simp, ?_, .inl rfl, ?_, fun hf => ?_⟩
    · have := hr.length; simp; omega
    · refine RelC.mk fun i x hx => ?_
      obtain ⟨v, hv, hrel⟩ := hr.get hx
      have hil : i < vs.length := by
        rcases Nat.lt_or_ge i vs.length with h | h
        · exact h
        · simp [List.getElem?_eq_none h] at hv
      refine ⟨v, ?_, h1 v (List.mem_of_getElem? hv), hrel.mono hE (fun _ h => h) (fun b hb => hlt b (st.fzlt b hb))⟩
      rw [cell_mk hnew]
      simp [List.getElem?_append_left hil, hv]
    · have := st.fzlt _ hf; omega

theorem mkres_sound (st : St E fz S w) (hF : RelF E fz w F a.tmps) {o : Oper} {t e : TypeId} {x y : Operand} {rx ry : Rand} {n b d : Nat} {z : List AVal} (ho : o.op = .makeSlice t x y) (ht : P.underlying t = some (.slice e)) (hn : tSize P e = some n) (hb : tBytes P e = some b) (hz : tZero P e = some z) (h0 : 0 < n) (hb0 : 0 < b) (hzl : z.length = n) (hx : cRand x = some rx) (hy : cRand y = some ry)
    (h : vcOp P F S K (.mkres d n b z rx ry)) : RunsTo P ((execOp a.eval o).run P w) (Post K E fz S w) := by
  have hr1 := eval_rel hF hx
  have hr2 := eval_rel hF hy
  simp only [vcOp, rdK_iff] at h
  obtain ⟨k, m, ex, hyx, hm, hd0, hdl, hdead, hk⟩ := wIdx_iff h
  rw [hyx, ex] at hr2
  rw [ex] at hr1
  simp only [Rel] at hr1 hr2
  have hzz : ∃ i zv, P.info? e = some i ∧ i.zero = some zv ∧ absL zv.cells.toList = some z ∧ i.size = n ∧ i.bytes = b := by
    unfold tZero at hz
    unfold tSize at hn
    unfold tBytes at hb
    split at hz
    · rename_i i hi
      rw [hi] at hn hb
      split at hz
      · rename_i zv hzv
        exact ⟨i, zv, hi, hzv, hz, by simpa using hn, by simpa using hb⟩
      · cases hz
    · cases hz
  obtain ⟨i, zv, hi, hzv, hab, hsz, hby⟩ := hzz
  have hmm : m ≤ b * m := Nat.le_mul_of_pos_left m hb0
  have hrun := run_make (P := P) w t e i zv ht hi hzv k k (m : Int) (m : Int) (by omega) (Int.le_refl _) (by rw [hby, ← Int.natCast_mul]; omega) (by omega)
  have hrel := absL_rel (E := E) (fz := fz) (w := w) hab
  obtain ⟨g1, g2⟩ := made_rel hrel.1 hrel.2 (by omega) m
  rw [hzl] at g1 g2
  obtain ⟨ver, E', q1, q2, q3⟩ := new_at (w' := w.alloc (.cells (madeCells zv.cells (m * n)) e)) st hdead (rest := []) (T := e) n g1 g2 (by rw [List.append_nil]; rfl) rfl rfl ⟨rfl, Nat.le_refl _⟩
  have hlen : (madeCells zv.cells (m * n)).toList.length = m * n := by simp [madeCells]
  refine runs_of st (v := .slice (some ⟨w.heap.size, 0, none⟩) m m) (w' := w.alloc (.cells (madeCells zv.cells (m * n)) e)) ?_ ⟨.sl (S.length - d) ver 0 m, _, E', fz, hk ver, q3, q2, ?_⟩
  · simp only [execOp, ho, hr1, hr2]
    simp only [Int.toNat_natCast, hsz] at hrun
    simp [hrun]
  · simp only [Rel]
    refine .inr ⟨_, _, _, _, m, q1, Nat.le_refl _, ?_, rfl⟩
    simp [hlen]

theorem alres_sound (st : St E fz S w) {o : Oper} {t : TypeId} {z : List AVal} {k d : Nat} (ho : o.op = .alloc t) (hz : tZero P t = some z)
    (h : vcOp P F S K (.alres d k z)) : RunsTo P ((execOp a.eval o).run P w) (Post K E fz S w) := by
  simp only [vcOp] at h
  obtain ⟨hd0, hdl, hdead, hk⟩ := h
  obtain ⟨v, g1, g2, g3⟩ := run_zero hz w
  obtain ⟨ver, E', q1, q2, q3⟩ := new_at (w' := w.alloc (.cells v.cells t)) st hdead (rest := []) (T := t) k (g2 E fz w) g3 (by rw [List.append_nil]; rfl) rfl rfl ⟨rfl, Nat.le_refl _⟩
  exact runs_of st (by simp [execOp, ho, Instr.alloc, g1, newVar, newRow]; rfl) ⟨.ptr (S.length - d) ver 0, _, E', fz, hk ver, q3, q2, by simp only [Rel]; exact ⟨_, _, _, _, q1, rfl⟩⟩

theorem clear_sound (st : St E fz S w) (hF : RelF E fz w F a.tmps) {o : Oper} {c : Call} {r : Rand} {t e : TypeId} {n : Nat} {z : List AVal} (ho : o.op = .call c) (hc : c.callee = .builtin .clear) (hargs : cRands c.args.toList = some [r])
    (ht : c.argTypes[0]? = some t) (hu : P.underlying t = some (.slice e)) (hn : tSize P e = some n) (hz : tZero P e = some z) (h0 : 0 < n) (hzl : z.length = n)
    (h : vcOp P F S K (.clear n z r)) : RunsTo P ((execOp a.eval o).run P w) (Post K E fz S w) := by
  have h1 := evals_rel hF hargs
  simp only [List.map_cons, List.map_nil, RelL] at h1
  obtain ⟨v, us, e1, hr, rfl⟩ := h1
  have e2 : (c.args.map a.eval)[0]? = some v := by rw [← Array.getElem?_toList, Array.toList_map, e1]; rfl
  simp only [vcOp, rdK_iff] at h
  generalize rd F r = X at *
  have hzz : ∃ i zv, P.info? e = some i ∧ i.zero = some zv ∧ absL zv.cells.toList = some z ∧ i.size = n := by
    unfold tZero at hz
    unfold tSize at hn
    split at hz
    · rename_i i hi
      rw [hi] at hn
      split at hz
      · rename_i zv hzv
        exact ⟨i, zv, hi, hzv, hz, by simpa using hn⟩
      · cases hz
    · cases hz
  obtain ⟨i, zv, hi, hzv, hab, hsz⟩ := hzz
  have go : ∀ {w' : World} {S' : Store}, (Builtin.clear_ c.argTypes o.type (c.args.map a.eval)).run P w = .ok (.tuple #[]) w' → Ext E fz S w E fz S' w' → St E fz S' w' → K .junk S' → RunsTo P ((execOp a.eval o).run P w) (Post K E fz S w) := fun {w' S'} hrun hx hs hk => by
    refine runs_of st (v := .tuple #[]) (w' := w') ?_ ⟨.junk, S', E, fz, hk, hx, hs, by simp [Rel]⟩
    simp [execOp, ho, resolve, hc, invoke, builtin, hrun]
  have zero : ∀ {ao : Option Addr} {c' : Nat}, v = .slice ao 0 c' → (Builtin.clear_ c.argTypes o.type (c.args.map a.eval)).run P w = .ok (.tuple #[]) w := fun {ao c'} hv => by
    subst hv
    cases ao <;> simp [Builtin.clear_, ht, e2, run_underlying hu]
  have same : ∀ {l ver k : Nat} {cs : List AVal} {off : Nat}, S[l]? = some (.row ver k cs) → S.set l (.row ver k (setCells cs off [])) = S := fun {l ver k cs off} hl => by
    have : setCells cs off [] = cs := by
      clear hl
      induction cs generalizing off with
      | nil => cases off <;> rfl
      | cons c cs ih => cases off with
        | zero => rfl
        | succ off => simp only [setCells]; rw [ih]
    rw [this]
    exact List.ext_getElem? fun i => by
      rw [List.getElem?_set]
      split
      · rename_i e; subst e; split
        · exact hl.symm
        · rename_i hh; rw [List.getElem?_eq_none (by omega)] at hl; cases hl
      · rfl
  cases X <;> first | exact h.elim | skip
  case nils =>
    simp only [Rel] at hr
    exact go (zero hr) .refl st h
  case sl l ver off m =>
    simp only at h
    obtain ⟨k', cs, hl, hk', hfit, hs⟩ := wRow_iff.1 h
    subst hk'
    rw [wSet_iff] at hs
    simp only [Rel] at hr
    rcases Nat.eq_zero_or_pos m with hm | hm
    · subst hm
      have hv : ∃ ao c', v = .slice ao 0 c' := by
        rcases hr with ⟨_, ao, e⟩ | ⟨_, _, _, _, c', _, _, _, e⟩
        · exact ⟨ao, 0, e⟩
        · exact ⟨_, c', e⟩
      obtain ⟨ao, c', hv⟩ := hv
      have e3 := same (off := off) hl
      refine go (zero hv) .refl st ?_
      have := hs.2
      simpa [e3] using this
    · rcases hr with ⟨hm0, _⟩ | ⟨b, base, cap, kk, c', hE, _, _, hv⟩
      · omega
      · have hrel := absL_rel (E := E) (fz := fz) (w := w) hab
        obtain ⟨g1, g2⟩ := made_rel hrel.1 hrel.2 (by omega) m
        rw [hzl] at g1 g2
        have hzs : zv.cells.size = k' := by have := hrel.1.length; simp at this; omega
        obtain ⟨w', q1, q2, q3⟩ := put_cells (P := P) (off := off) st hl (by rw [flatten_rep_length, hzl]; exact hfit) (fun e => by
          have := congrArg List.length e
          rw [flatten_rep_length, hzl] at this
          have := Nat.mul_pos hm h0
          simp at *; omega) g1 g2 hE
        refine go ?_ q3 q2 hs.2
        subst hv
        have hzv' : (zeroValue e).run P w = .ok zv w := by simp [zeroValue, run_info hi, hzv]
        have hcells : (Builtin.zeroCells zv.cells m).toList = (madeCells zv.cells (m * k')).toList := by
          simp [Builtin.zeroCells, madeCells, hzs]
        obtain ⟨m', rfl⟩ : ∃ m', m = m' + 1 := ⟨m - 1, by omega⟩
        rw [← hcells] at q1
        simp [Builtin.clear_, ht, e2, run_underlying hu, hzv', q1]

theorem s2b_sound (st : St E fz S w) (hF : RelF E fz w F a.tmps) {o : Oper} {x : Operand} {r : Rand} {s d e : TypeId} (ho : o.op = .convert s d x) (hs : P.underlying s = some .string) (hd : P.underlying d = some (.slice e)) (he : P.underlying e = some (.int .u8)) (hx : cRand x = some r)
    (h : vcOp P F S K (.s2b r)) : RunsTo P ((execOp a.eval o).run P w) (Post K E fz S w) := by
  have h1 := eval_rel hF hx
  simp only [vcOp, rdK_iff, wPush_iff] at h
  generalize rd F r = X at *
  cases X <;> first | exact h.elim | skip
  rename_i bs
  simp only [Rel] at h1
  have hrun := run_bytes_of_string (P := P) w s d e ⟨bs.toArray⟩ hs hd he
  have hsz : (⟨bs.toArray⟩ : ByteArray).size = bs.length := by simp [ByteArray.size]
  rw [hsz] at hrun
  have hcg := grownCap_ge w bs.length 0 e
  generalize hcap : grownCap w bs.length 0 e = cap at hrun hcg
  have hrow : bytesRow ⟨bs.toArray⟩ cap = ((bs.map fun c => Value.int .u8 (c.toNat : Int)) ++ List.replicate (cap - bs.length) (Value.int .u8 0)).toArray := by
    apply Array.ext'
    simp [bytesRow, hsz]
  rw [hrow] at hrun
  obtain ⟨ver, E', p1, p2, p3⟩ := new_rowM (E := E) (fz := fz) (S := S) (w := w) (w' := w.drew.alloc (.cells ((bs.map fun c => Value.int .u8 (c.toNat : Int)) ++ List.replicate (cap - bs.length) (Value.int .u8 0)).toArray e
      (((bs.map fun c => Value.int .u8 (c.toNat : Int)) ++ List.replicate (cap - bs.length) (Value.int .u8 0)).toArray.size, ((bs.map fun c => Value.int .u8 (c.toNat : Int)) ++ List.replicate (cap - bs.length) (Value.int .u8 0)).toArray.size + 1)))
    (rest := List.replicate (cap - bs.length) (Value.int .u8 0)) (T := e) (cs := bs.map fun c => AVal.int .u8 (c.toNat : Int)) (vs := bs.map fun c => Value.int .u8 (c.toNat : Int)) _ _ st 1 (RelL.mk (by simp) fun i x v hx hv => by
      simp only [List.getElem?_map] at hx hv
      cases hs : bs[i]? with
      | none => rw [hs] at hx; cases hx
      | some c => rw [hs] at hx hv; cases hx; cases hv; simp [Rel]) (by simp [Value.oneCell']) (.inr (by simp)) rfl rfl rfl ⟨rfl, Nat.le_succ _⟩
  refine runs_of st (by simp only [execOp, ho, h1]; simp [hrun]; rfl) ⟨.sl S.length ver 0 bs.length, _, E', fz, h ver, p3, p2, ?_⟩
  simp only [Rel]
  exact .inr ⟨_, _, _, _, cap, p1, hcg, by simp; omega, rfl⟩

theorem mark_sound (st : St E fz S w) (hF : RelF E fz w F a.tmps) {o : Oper} {x : Operand} {r : Rand} {s e : TypeId} (ho : o.op = .convert s s x) (hs : P.underlying s = some (.slice e)) (he : P.underlying e = some (.int .u8)) (hx : cRand x = some r)
    (h : vcOp P F S K (.mark r)) : RunsTo P ((execOp a.eval o).run P w) (Post K E fz S w) := by
  have h1 := eval_rel hF hx
  simp only [vcOp, rdK_iff] at h
  generalize rd F r = X at *
  cases X <;> first | exact h.elim | skip
  rename_i l ver off n
  obtain ⟨hn, h⟩ := h
  obtain ⟨k', cs, hl, hk⟩ := wRow_iff.1 h
  have h1' := h1
  simp only [Rel] at h1'
  rcases h1' with ⟨rfl, _⟩ | ⟨b, base, cap, kk, c, hE, hle, hcap, e2⟩
  · omega
  rcases st.ok l _ hl with ⟨g1, g2⟩ | ⟨b', base', cap', arr, T, lo, hi, g1, g2, g3, g4, g5, g6, g7⟩
  · rw [hE] at g1; cases g1
  rw [hE] at g1; cases g1
  have hlt : l < S.length := by
    rcases Nat.lt_or_ge l S.length with h | h
    · exact h
    · simp [List.getElem?_eq_none h] at hl
  have hsh : w.shape? b = some (T, arr.size) := by unfold World.shape?; rw [g2]
  obtain ⟨lo', hi', hm, hh⟩ : ∃ lo' hi', (lo' = hi' ∨ arr.size ≤ lo') ∧ (w.freeze ⟨b, arr.size, none⟩ 1).heap[b]? = some (.cells arr T (lo', hi')) := by
    by_cases c : lo = hi
    · refine ⟨arr.size, arr.size + 1, .inr (Nat.le_refl _), ?_⟩
      unfold World.freeze
      simp [Array.getElem?_modify, g2, c]
    · refine ⟨min lo arr.size, max hi (arr.size + 1), .inr (by omega), ?_⟩
      unfold World.freeze
      simp [Array.getElem?_modify, g2, c]
  have hne : ∀ b' : Nat, b' ≠ b → (w.freeze ⟨b, arr.size, none⟩ 1).heap[b']? = w.heap[b']? := fun b' hb => by
    unfold World.freeze
    simp [Array.getElem?_modify, Ne.symm hb]
  have hsz : (w.freeze ⟨b, arr.size, none⟩ 1).heap.size = w.heap.size := by unfold World.freeze; simp
  have hkeep : ∀ bb, fz bb → (w.freeze ⟨b, arr.size, none⟩ 1).heap[bb]? = w.heap[bb]? := fun bb hb => hne bb fun e => g7 (e ▸ hb)
  obtain ⟨q2, q3⟩ := st.upd (E' := E) (S' := S) (w' := w.freeze ⟨b, arr.size, none⟩ 1) l (.row ver k' cs) (fun _ _ h => h) st.fresh (fun _ _ => rfl) hl (by omega)
    (fun bb _ hno => hne bb fun e => hno (by subst e; exact ⟨_, hl, by simp [obBlock, hE]⟩)) (fun bb hb => .inl (by simp [obBlock, hE] at hb; subst hb; exact ⟨_, hl, by simp [obBlock, hE]⟩))
    (.inr ⟨b, base, cap, arr, T, lo', hi', hE, hh, g3, g4, hm, RelC.mk fun i x hx => (by
      obtain ⟨c, hc, hone, hrel⟩ := g6.get hx
      rw [cell_mk g2] at hc
      exact ⟨c, by rw [cell_mk hh]; exact hc, hone, hrel.mono (fun _ _ h => h) (fun _ h => h) hkeep⟩), g7⟩) rfl rfl ⟨rfl, Nat.le_refl _⟩
  refine runs_of st (v := .slice (some ⟨b, base + off, none⟩) n c) (w' := w.freeze ⟨b, arr.size, none⟩ 1) ?_ ⟨.sl l ver off n, S, E, fz, hk, q3, q2, ?_⟩
  · simp only [execOp, ho, e2]
    simp [convert, run_underlying hs, run_underlying he, markStringish, hsh]
  · simp only [Rel]
    exact .inr ⟨b, base, cap, k', c, hE, hle, hcap, rfl⟩

theorem b2s_sound (st : St E fz S w) (hF : RelF E fz w F a.tmps) {o : Oper} {x : Operand} {r : Rand} {s d e : TypeId} (ho : o.op = .convert s d x) (hs : P.underlying s = some (.slice e)) (hd : P.underlying d = some .string) (he : P.underlying e = some (.int .u8)) (hx : cRand x = some r)
    (h : vcOp P F S K (.b2s r)) : RunsTo P ((execOp a.eval o).run P w) (Post K E fz S w) := by
  have h1 := eval_rel hF hx
  simp only [vcOp, rdK_iff] at h
  generalize rd F r = X at *
  have go : ∀ {bs : List UInt8}, (Conv.bytesToString (a.eval x)).run P w = .ok (.string ⟨bs.toArray⟩) w → (∃ ao n c, a.eval x = .slice ao n c) → K (.str bs) S → RunsTo P ((execOp a.eval o).run P w) (Post K E fz S w) := fun {bs} hrun hsh hk => by
    obtain ⟨ao, n, c, e1⟩ := hsh
    rw [e1] at hrun
    have := run_convert_bytes_string w s d e ao n c hs he hd
    exact runs_pure st (v := .string ⟨bs.toArray⟩) (by simp only [execOp, ho, e1]; simp [this, hrun]) hk (by simp [Rel])
  have nil0 : ∀ {ao : Option Addr} {c : Nat}, (Conv.bytesToString (.slice ao 0 c)).run P w = .ok (.string ⟨([] : List UInt8).toArray⟩) w := fun {ao c} => by
    cases ao with
    | none => simp [Conv.bytesToString]; rfl
    | some ad =>
      have := run_bytesToString (P := P) w ad 0 c [] (by simp [loadCells, loadCellsFrom])
      rw [this]; rfl
  have cells : ∀ {b off n c : Nat} {ns : List Int}, RelC E fz w b off (ns.map (AVal.int .u8)) → ns.length = n → (Conv.bytesToString (.slice (some ⟨b, off, none⟩) n c)).run P w = .ok (.string ⟨(ns.map fun n => UInt8.ofNat n.toNat).toArray⟩) w := fun {b off n c ns} hc hl => by
    obtain ⟨vs, g1, g2, g3, g4⟩ := run_load_cells (P := P) hc
    have e2 : vs = ns.map (Value.int .u8) := by
      refine List.ext_getElem? fun i => ?_
      cases hn : ns[i]? with
      | none =>
        have l1 := g1.length
        rw [List.length_map] at l1
        have := List.getElem?_eq_none_iff.1 hn
        rw [List.getElem?_eq_none (by omega), List.getElem?_map, hn]; rfl
      | some y =>
        obtain ⟨v, q1, q2⟩ := g1.get (i := i) (x := .int .u8 y) (by rw [List.getElem?_map, hn]; rfl)
        simp only [Rel] at q2
        rw [q1, List.getElem?_map, hn, q2]; rfl
    rw [List.length_map, hl] at g3
    rw [e2] at g3
    rw [run_bytesToString w _ n c ns g3]
    congr 2
    have : ∀ (l : List Int) (r : ByteArray), l.foldl (fun r n => r.push (UInt8.ofNat n.toNat)) r = ⟨r.data ++ (l.map fun n => UInt8.ofNat n.toNat).toArray⟩ := by
      intro l
      induction l with
      | nil => intro r; simp
      | cons y l ih => intro r; simp only [List.foldl_cons]; rw [ih]; simp [ByteArray.push]
    rw [this]
    have he0 : ByteArray.empty.data = #[] := rfl
    rw [he0]; simp
  cases X <;> simp only [wBytes] at h
  case nils =>
    simp only [Rel] at h1
    exact go (by rw [h1]; exact nil0) ⟨_, _, _, h1⟩ h
  case ros n cs =>
    obtain ⟨hle, ns, e1, hk⟩ := h
    simp only [Rel] at h1
    rcases h1 with ⟨rfl, ao, c, e2⟩ | ⟨b, off, c, hb, hle2, e2, hc⟩
    · have : ns = [] := by cases ns with | nil => rfl | cons y l => simp at e1
      subst this
      exact go (by rw [e2]; exact nil0) ⟨_, _, _, e2⟩ hk
    · have hc' := hc.take n
      rw [e1] at hc'
      have hl : ns.length = n := by have := congrArg List.length e1; simp at this; omega
      exact go (by rw [e2]; exact cells hc' hl) ⟨_, _, _, e2⟩ hk
  case sl l ver off n =>
    obtain ⟨k', cs, hl, hfit, ns, e1, hk⟩ := wRow_iff.1 h
    have hlen : ns.length = n := by have := congrArg List.length e1; simp [subL] at this; omega
    simp only [Rel] at h1
    rcases h1 with ⟨rfl, ao, e2⟩ | ⟨b, base, cap, kk, c, hE, hle, hcap, e2⟩
    · have : ns = [] := List.length_eq_zero_iff.1 hlen
      subst this
      exact go (by rw [e2]; exact nil0) ⟨_, _, _, e2⟩ hk
    · rcases st.ok l _ hl with ⟨g1, g2⟩ | ⟨b', base', cap', arr, T, lo, hi, g1, g2, g3, g4, g5, g6, g7⟩
      · rw [hE] at g1; cases g1
      · rw [hE] at g1; cases g1
        have hc' := (g6.drop off).take n
        rw [show (cs.drop off).take n = subL cs off n from rfl, e1] at hc'
        exact go (by rw [e2]; exact cells hc' hlen) ⟨_, _, _, e2⟩ hk
end
end Go.Vc
