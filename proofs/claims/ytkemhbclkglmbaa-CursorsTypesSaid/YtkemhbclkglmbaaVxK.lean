/-
  The conditions are enough: append.
-/
import Derived.Test.YtkemhbclkglmbaaVxJ
set_option linter.unusedVariables false
set_option linter.unusedSimpArgs false
namespace Go.Vc
section
variable {P : Program} {E : Env} {fz : Nat → Prop} {S : Store} {w : World} {F : Frame} {a : Act} {K : AVal → Store → Prop} {ro : Bool}

/-- What is appended: n elements, their cells, however the world has drawn. -/
theorem src_rel (st : St E fz S w) {k : Nat} {x : AVal} {v : Value} {Q : Nat → List AVal → Prop} (h : wSrc S k x Q) (hr : Rel E fz w x v) :
    ∃ (n : Nat) (ys : List AVal) (news : List Value), Q n ys ∧ ys.length = n * k ∧ RelL E fz w ys news ∧ (∀ c ∈ news, c.oneCell' = true) ∧ (∀ w', (Builtin.lenOf v).run P w' = .ok n w') ∧
      ∀ w' : World, w'.heap = w.heap → (Builtin.firstCells k n v).run P w' = .ok news.toArray w' := by
  have cells : ∀ {b off n : Nat} {cs : List AVal} {c : Nat}, RelC E fz w b off cs → cs.length = n * k → ∃ news : List Value, RelL E fz w cs news ∧ (∀ c ∈ news, c.oneCell' = true) ∧
      ∀ w' : World, w'.heap = w.heap → (Builtin.firstCells k n (.slice (some ⟨b, off, none⟩) n c)).run P w' = .ok news.toArray w' := fun {b off n cs c} hc hl => by
    obtain ⟨vs, g1, g2, g3⟩ := hc.read
    refine ⟨vs, g1, g2, fun w' hw => run_firstCells_some (P := P) w' k n ⟨b, off, none⟩ n c vs (by rw [g1.length, hl]) fun j u hu => ?_⟩
    rw [add_mk, ← g3 j u hu]
    unfold World.cell?
    rw [hw]
  cases x <;> simp only [wSrc] at h
  case nils =>
    simp only [Rel] at hr
    subst hr
    exact ⟨0, [], [], h, by simp, by simp [RelL], by simp, fun w' => by simp [Builtin.lenOf], fun w' _ => by simp [Builtin.firstCells]⟩
  case ros n cs =>
    simp only [Rel] at hr
    rcases hr with ⟨rfl, ao, c, rfl⟩ | ⟨b, off, c, hb, hle, rfl, hc⟩
    · refine ⟨0, [], [], by simpa using h.2, by simp, by simp [RelL], by simp, fun w' => by simp [Builtin.lenOf], fun w' _ => ?_⟩
      cases ao <;> simp [Builtin.firstCells, loadCells, loadCellsFrom]
    · obtain ⟨news, g1, g2, g3⟩ := cells (n := n) (c := c) (hc.take (n * k)) (by rw [List.length_take]; omega)
      refine ⟨n, _, news, h.2, by rw [List.length_take]; omega, g1, g2, fun w' => by simp [Builtin.lenOf], fun w' hw => ?_⟩
      have := g3 w' hw
      simpa [Builtin.firstCells] using this
  case sl l ver off n =>
    obtain ⟨k', cs, hl, hfit, hq⟩ := wRow_iff.1 h
    simp only [Rel] at hr
    rcases hr with ⟨rfl, ao, rfl⟩ | ⟨b, base, cap, kk, c, hE, hle, hcap, rfl⟩
    · refine ⟨0, [], [], by simpa [subL] using hq, by simp, by simp [RelL], by simp, fun w' => by simp [Builtin.lenOf], fun w' _ => ?_⟩
      cases ao <;> simp [Builtin.firstCells, loadCells, loadCellsFrom]
    · have hlen : (subL cs off (n * k)).length = n * k := by simp [subL]; omega
      rcases st.ok l _ hl with ⟨g1, g2⟩ | ⟨b', base', cap', arr, T, lo, hi, g1, g2, g3, g4, g5, g6, g7⟩
      · rw [hE] at g1; cases g1
      · rw [hE] at g1; cases g1
        obtain ⟨news, q1, q2, q3⟩ := cells (n := n) (c := c) ((g6.drop off).take (n * k)) hlen
        refine ⟨n, _, news, hq, hlen, q1, q2, fun w' => by simp [Builtin.lenOf], fun w' hw => ?_⟩
        have := q3 w' hw
        simpa [Builtin.firstCells] using this
  case str s =>
    obtain ⟨rfl, hq⟩ := h
    simp only [Rel] at hr
    subst hr
    have hsz : (⟨s.toArray⟩ : ByteArray).size = s.length := by simp [ByteArray.size]
    refine ⟨s.length, _, s.map fun c => .int .u8 c.toNat, hq, by simp, RelL.mk (by simp) fun i x v hx hv => ?_, by simp [Value.oneCell'], fun w' => by simp [Builtin.lenOf, hsz], fun w' _ => ?_⟩
    · simp only [List.getElem?_map] at hx hv
      cases hs : s[i]? with
      | none => rw [hs] at hx; cases hx
      | some c => rw [hs] at hx hv; cases hx; cases hv; simp [Rel]
    · simp only [Builtin.firstCells, Sem.run_pure]
      congr 1
      have : (⟨s.toArray⟩ : ByteArray).extract 0 s.length = ⟨s.toArray⟩ := by
        apply ByteArray.ext
        simp [ByteArray.data_extract]
      rw [this]
      simp

theorem fresh_ver (st : St E fz S w) (bk : Bk) : ∃ (ver : Nat) (E' : Env), E' ver = some bk ∧ (∀ v x, E v = some x → E' v = some x) ∧ ∃ n, ∀ v, n ≤ v → E' v = none := by
  obtain ⟨n, hn⟩ := st.fresh
  refine ⟨n, fun v => if v = n then some bk else E v, by simp, fun v x hx => ?_, n + 1, fun v hv => by simp [hn v (by omega), show v ≠ n by omega]⟩
  have : v ≠ n := fun e => by subst e; rw [hn v (Nat.le_refl _)] at hx; cases hx
  simp [this, hx]

/-- The place l gets a row in a new block. -/
theorem set_new (st : St E fz S w) {l : Nat} (hlt : l < S.length) {cs : List AVal} {vs rest : List Value} {T : TypeId} (k : Nat) (hr : RelL E fz w cs vs) (h1 : ∀ c ∈ vs, c.oneCell' = true)
    {w' : World} (hw : w'.heap = w.heap.push (.cells (vs ++ rest).toArray T (0, 0))) (g1 : w'.os = w.os) (g2 : w'.output = w.output) (g3 : Tp w w') :
    ∃ ver E', E' ver = some (.real w.heap.size 0 (vs ++ rest).length k) ∧ St E' fz (S.set l (.row ver k cs)) w' ∧ Ext E fz S w E' fz (S.set l (.row ver k cs)) w' := by
  obtain ⟨ver, E', e1, hE, hf⟩ := fresh_ver st (.real w.heap.size 0 (vs ++ rest).length k)
  have hlo : ∀ b : Nat, b < w.heap.size → w'.heap[b]? = w.heap[b]? := fun b hb => by rw [hw, Array.getElem?_push, if_neg (by omega)]
  have hnew : w'.heap[w.heap.size]? = some (.cells (vs ++ rest).toArray T (0, 0)) := by rw [hw]; simp
  refine ⟨ver, E', e1, st.upd l (.row ver k cs) hE hf (fun l' hl' => by rw [List.getElem?_set_ne (Ne.symm hl')]) (by rw [List.getElem?_set_self hlt]) (by rw [hw]; simp) (fun b hb _ => hlo b hb) (fun b hb => .inr ?_) ?_ g1 g2 g3⟩
  · simp [obBlock, e1] at hb; omega
  · refine .inr ⟨w.heap.size, 0, (vs ++ rest).length, (vs ++ rest).toArray, T, 0, 0, e1, hnew, by simp, ?_, .inl rfl, ?_, fun hf => ?_⟩
    · have := hr.length; simp; omega
    · refine RelC.mk fun i x hx => ?_
      obtain ⟨v, hv, hrel⟩ := hr.get hx
      have hil : i < vs.length := by
        rcases Nat.lt_or_ge i vs.length with h | h
        · exact h
        · simp [List.getElem?_eq_none h] at hv
      refine ⟨v, ?_, h1 v (List.mem_of_getElem? hv), hrel.mono hE (fun _ h => h) (fun b hb => hlo b (st.fzlt b hb))⟩
      rw [cell_mk hnew]
      simp [List.getElem?_append_left hil, hv]
    · have := st.fzlt _ hf; omega

theorem set_nil (st : St E fz S w) {l : Nat} (hlt : l < S.length) (k : Nat) : ∃ ver E', E' ver = some .nil ∧ St E' fz (S.set l (.row ver k [])) w ∧ Ext E fz S w E' fz (S.set l (.row ver k [])) w := by
  obtain ⟨ver, E', e1, hE, hf⟩ := fresh_ver st .nil
  refine ⟨ver, E', e1, st.upd l (.row ver k []) hE hf (fun l' hl' => by rw [List.getElem?_set_ne (Ne.symm hl')]) (by rw [List.getElem?_set_self hlt]) (Nat.le_refl _) (fun _ _ _ => rfl) (fun b hb => ?_) (.inl ⟨e1, rfl⟩) rfl rfl ⟨rfl, Nat.le_refl _⟩⟩
  simp [obBlock, e1] at hb

/-- Appended in place. -/
theorem put_more (st : St E fz S w) {l ver k off n : Nat} {cs ys : List AVal} {us : List Value} (hl : S[l]? = some (.row ver k cs)) (hfit : off + n ≤ cs.length) {b base cap : Nat} (hE : E ver = some (.real b base cap k))
    (hcap : off + n + ys.length ≤ cap) (hr : RelL E fz w ys us) (h1 : ∀ c ∈ us, c.oneCell' = true) :
    ∃ w' ver' E', (storeCells ⟨b, base + (off + n), none⟩ us 0).run P w = .ok () w' ∧ E' ver' = some (.real b (base + off) (cap - off) k) ∧
      St E' fz (S.set l (.row ver' k (subL cs off n ++ ys))) w' ∧ Ext E fz S w E' fz (S.set l (.row ver' k (subL cs off n ++ ys))) w' := by
  have hlt : l < S.length := by
    rcases Nat.lt_or_ge l S.length with h | h
    · exact h
    · simp [List.getElem?_eq_none h] at hl
  have hlen := hr.length
  rcases st.ok l _ hl with ⟨g1, g2⟩ | ⟨b', base', cap', arr, T, lo, hi, g1, g2, g3, g4, g5, g6, g7⟩
  · rw [hE] at g1; cases g1
  · rw [hE] at g1; cases g1
    obtain ⟨w', arr', q1, q2, q3, q4, q5, q6, q7, q8, q9⟩ := run_storeCells (P := P) (b := b) (st := base + (off + n)) us 0 w arr g2 (by omega)
      (fun j hj h => by rcases g5 with g5 | g5 <;> omega) h1
    obtain ⟨ver', E', e1, hE', hf⟩ := fresh_ver st (.real b (base + off) (cap - off) k)
    have hsub : (subL cs off n).length = n := by simp [subL]; omega
    refine ⟨w', ver', E', q1, e1, st.upd l (.row ver' k (subL cs off n ++ ys)) hE' hf (fun l' hl' => by rw [List.getElem?_set_ne (Ne.symm hl')]) (by rw [List.getElem?_set_self hlt]) (by omega) (fun bb _ hno => q5 bb fun e => hno ?_) (fun bb hb => .inl ?_) ?_ q7 q8 q9⟩
    · subst e; exact ⟨_, hl, by simp [obBlock, hE]⟩
    · simp [obBlock, e1] at hb; subst hb; exact ⟨_, hl, by simp [obBlock, hE]⟩
    · refine .inr ⟨b, base + off, cap - off, arr', T, lo, hi, e1, q2, by omega, by simp [hsub]; omega, by rw [q3]; exact g5, ?_, g7⟩
      have hk : ∀ bb, fz bb → w'.heap[bb]? = w.heap[bb]? := fun bb hb => q5 bb fun e => g7 (e ▸ hb)
      refine RelC.mk fun i x hx => ?_
      rw [cell_mk q2, q4]
      by_cases hi' : i < n
      · rw [List.getElem?_append_left (by omega)] at hx
        rw [if_neg (by omega)]
        simp only [subL, List.getElem?_take, hi', if_true, List.getElem?_drop] at hx
        obtain ⟨c, hc, hone, hrel⟩ := g6.get hx
        rw [cell_mk g2, show base + (off + i) = base + off + i by omega] at hc
        exact ⟨c, hc, hone, hrel.mono hE' (fun _ h => h) hk⟩
      · rw [List.getElem?_append_right (by omega), hsub] at hx
        obtain ⟨v, hv, hrel⟩ := hr.get hx
        have hil : i - n < us.length := by
          rcases Nat.lt_or_ge (i - n) us.length with h | h
          · exact h
          · simp [List.getElem?_eq_none h] at hv
        rw [if_pos (by omega), show base + off + i - (base + (off + n) + 0) = i - n by omega]
        exact ⟨v, hv, h1 v (List.mem_of_getElem? hv), hrel.mono hE' (fun _ h => h) hk⟩


theorem run_append_in {t u e ty : TypeId} {ut : TypeDesc} {i : TypeInfo} {ats : Array TypeId} {args : Array Value} {base : Option Addr} {sLen sCap n : Nat} {xv : Value} {news : List Value}
    (ht0 : ats[0]? = some t) (ht1 : ats[1]? = some u) (a0 : args[0]? = some (.slice base sLen sCap)) (a1 : args[1]? = some xv) (ht : P.underlying t = some (.slice e)) (hu : P.underlying u = some ut) (hut : (∃ e', ut = .slice e') ∨ ut = .string) (hi : P.info? e = some i)
    (hlen : (Builtin.lenOf xv).run P w = .ok n w) (hcells : (Builtin.firstCells i.size n xv).run P w = .ok news.toArray w) (hc : sLen + n ≤ sCap) :
    (Builtin.append_ ats ty args).run P w = match base with
      | some ad => ((storeCells (ad.add (sLen * i.size)) news).run P w).andThen fun _ w' => .ok (.slice base (sLen + n) sCap) w'
      | none => .ok (.slice none (sLen + n) sCap) w := by
  have hsz : (sizeOf e).run P w = .ok i.size w := run_size (by simp [tSize, hi]) w
  rcases hut with ⟨e', rfl⟩ | rfl <;>
    · simp only [Builtin.append_, ht0, ht1, a0, a1, Sem.run_bind, run_underlying ht, run_underlying hu, Result.andThen_ok, hsz, Sem.run_pure, Bool.false_eq_true, if_false, hlen, hc, if_true, Bool.not_false, hcells]
      cases base <;> simp

theorem run_append_new {t u e ty : TypeId} {ut : TypeDesc} {i : TypeInfo} {z : Value} {ats : Array TypeId} {args : Array Value} {base : Option Addr} {sLen sCap n : Nat} {xv : Value} {olds news : List Value}
    (ht0 : ats[0]? = some t) (ht1 : ats[1]? = some u) (a0 : args[0]? = some (.slice base sLen sCap)) (a1 : args[1]? = some xv) (ht : P.underlying t = some (.slice e)) (hu : P.underlying u = some ut) (hut : (∃ e', ut = .slice e') ∨ ut = .string) (hi : P.info? e = some i) (hz : i.zero = some z) (hb0 : 0 < i.bytes)
    (hlen : ∀ w' : World, (Builtin.lenOf xv).run P w' = .ok n w') (hcells : ∀ w' : World, w'.heap = w.heap → (Builtin.firstCells i.size n xv).run P w' = .ok news.toArray w') (hold : ∀ w' : World, w'.heap = w.heap → (Builtin.firstCells i.size sLen (.slice base sLen sCap)).run P w' = .ok olds.toArray w')
    (hg : sCap < sLen + n) (hfit : (sLen + n) * i.bytes ≤ 140737488355328) :
    ∃ (w' : World) (rest : List Value) (cap : Nat), sLen + n ≤ cap ∧ rest.length = (cap - (sLen + n)) * z.cells.size ∧ (Builtin.append_ ats ty args).run P w = .ok (.slice (some ⟨w.heap.size, 0, none⟩) (sLen + n) cap) w' ∧
        w'.heap = w.heap.push (.cells (olds ++ news ++ rest).toArray e (0, 0)) ∧ w'.os = w.os ∧ w'.output = w.output ∧ Tp w w' := by
  have hsz : ∀ w' : World, (sizeOf e).run P w' = .ok i.size w' := fun w' => run_size (by simp [tSize, hi]) w'
  have hbb : sLen + n ≤ (sLen + n) * i.bytes := Nat.le_mul_of_pos_right _ hb0
  have f2 : ¬ (Builtin.nextslicecap (sLen + n) sCap * i.bytes > 2 ^ 48) := by
    have := growslice_fits (bytes := i.bytes) hg hfit
    omega
  have f3 : ¬ (sLen + n ≤ sCap) := by omega
  have f4 : ¬ (i.bytes = 0) := by omega
  have hcapq : sLen + n ≤ (Question.appendCap (sLen + n) sCap e).cut (w.tape w.drawn (.appendCap (sLen + n) sCap e)) := by simp [Question.cut]
  have hf : (Question.appendCap (sLen + n) sCap e).forced = false := rfl
  generalize hq : (Question.appendCap (sLen + n) sCap e).cut (w.tape w.drawn (.appendCap (sLen + n) sCap e)) = cap at hcapq
  refine ⟨w.drew.alloc (.cells (olds ++ news ++ (Builtin.zeroCells z.cells (cap - (sLen + n))).toList).toArray e), (Builtin.zeroCells z.cells (cap - (sLen + n))).toList, cap, hcapq, ?_, ?_, rfl, rfl, rfl, ⟨rfl, Nat.le_succ _⟩⟩
  · simp [Builtin.zeroCells]
  · have hd : w.drew.heap = w.heap := rfl
    have c1 := hcells w.drew hd
    have c2 := hold w.drew hd
    have c3 : (zeroValue e).run P w.drew = .ok z w.drew := by simp [zeroValue, run_info hi, hz]
    rcases hut with ⟨e', rfl⟩ | rfl <;>
      · simp only [Builtin.append_, ht0, ht1, a0, a1, Sem.run_bind, run_underlying ht, run_underlying hu, Result.andThen_ok, hsz, Sem.run_pure, Bool.false_eq_true, if_false, hlen, f3, run_info hi, false_or, f4, and_false, f2, Bool.not_false, if_true, run_choose, hf, hq, run_askRoom, World.drew_eq, c1, c2, c3, newRow, run_newObj]
        rw [show olds.toArray ++ news.toArray ++ Builtin.zeroCells z.cells (cap - (sLen + n)) = (olds ++ news ++ (Builtin.zeroCells z.cells (cap - (sLen + n))).toList).toArray from by apply Array.ext'; simp]
        rfl

theorem append_sound (st : St E fz S w) (hF : RelF E fz w F a.tmps) {o : Oper} {c : Call} {rs rx : Rand} {t u e : TypeId} {ut : TypeDesc} {i : TypeInfo} {z : Value} (ho : o.op = .call c) (hc : c.callee = .builtin .append) (hargs : cRands c.args.toList = some [rs, rx])
    (ht0 : c.argTypes[0]? = some t) (ht1 : c.argTypes[1]? = some u) (ht : P.underlying t = some (.slice e)) (hu : P.underlying u = some ut) (hut : (∃ e', ut = .slice e') ∨ ut = .string) (hi : P.info? e = some i) (hz : i.zero = some z) (hs0 : 0 < i.size) (hb0 : 0 < i.bytes) (hzs : z.cells.size = i.size)
    (h : vcOp P F S K (.append i.size i.bytes rs rx)) : RunsTo P ((execOp a.eval o).run P w) (Post K E fz S w) := by
  have h1 := evals_rel hF hargs
  simp only [List.map_cons, List.map_nil, RelL] at h1
  obtain ⟨sv, us, e1, hrs, xv, us2, e2, hrx, rfl⟩ := h1
  subst e2
  have a0 : (c.args.map a.eval)[0]? = some sv := by rw [← Array.getElem?_toList, Array.toList_map, e1]; rfl
  have a1 : (c.args.map a.eval)[1]? = some xv := by rw [← Array.getElem?_toList, Array.toList_map, e1]; rfl
  simp only [vcOp, rdK_iff] at h
  obtain ⟨n, ys, news, hq, hyl, hyr, hone, hlen, hcells⟩ := src_rel (P := P) st h hrx
  clear h
  have hnl : news.length = n * i.size := by rw [hyr.length, hyl]
  have hex : ∀ {v : Value} {w' : World}, (Builtin.append_ c.argTypes o.type (c.args.map a.eval)).run P w = .ok v w' → (execOp a.eval o).run P w = .ok (.value v) w' := fun {v w'} hr => by
    simp [execOp, ho, resolve, hc, invoke, builtin, hr]
  generalize rd F rs = X at *
  cases X <;> first | exact hq.elim | skip
  case nils =>
    simp only [wPush_iff] at hq
    simp only [Rel] at hrs
    subst hrs
    by_cases hn0 : n = 0
    · subst hn0
      have : ys = [] := List.length_eq_zero_iff.1 (by omega)
      subst this
      have hr := run_append_in (P := P) (w := w) (ty := o.type) (sLen := 0) (sCap := 0) ht0 ht1 a0 a1 ht hu hut hi (hlen w) (hcells w rfl) (by omega)
      obtain ⟨ver, E', p1, p2, p3⟩ := new_nil st i.size
      exact runs_of st (hex hr) ⟨_, _, E', fz, hq.2 ver, p3, p2, by simp only [Rel]; exact .inl ⟨trivial, none, rfl⟩⟩
    · obtain ⟨w', rest, cap, q1, q2, q3, q4, q5, q6, q7⟩ := run_append_new (P := P) (w := w) (ty := o.type) (base := none) (sLen := 0) (sCap := 0) (olds := []) ht0 ht1 a0 a1 ht hu hut hi hz hb0 hlen hcells (fun w' _ => by simp [Builtin.firstCells]) (by omega) (by simpa using hq.1)
      obtain ⟨ver, E', p1, p2, p3⟩ := new_row (w' := w') st (rest := rest) (T := e) i.size hyr hone (by simpa using q4) q5 q6 q7
      refine runs_of st (hex q3) ⟨_, _, E', fz, hq.2 ver, p3, p2, ?_⟩
      simp only [Rel]
      refine .inr ⟨_, _, _, _, cap, p1, by omega, ?_, by simp⟩
      rw [List.length_append, hnl, q2, hzs, ← Nat.add_mul]
      simp only [Nat.zero_add] at q1 ⊢
      rw [show n + (cap - n) = cap by omega]
      exact Nat.le_refl _
  case sl l ver off len =>
    obtain ⟨k', cs, hl, rfl, hfit, hby, hk⟩ := wRow_iff.1 hq
    simp only [wSet_iff] at hk
    have hlt : l < S.length := by
      rcases Nat.lt_or_ge l S.length with h | h
      · exact h
      · simp [List.getElem?_eq_none h] at hl
    simp only [Rel] at hrs
    rcases hrs with ⟨rfl, ao, rfl⟩ | ⟨b, base, cap, kk, cc, hE, hle, hcap, rfl⟩
    · have hsub : subL cs off (0 * i.size) = [] := by simp [subL]
      by_cases hn0 : n = 0
      · subst hn0
        have : ys = [] := List.length_eq_zero_iff.1 (by omega)
        subst this
        have hnn : news = [] := List.length_eq_zero_iff.1 (by omega)
        subst hnn
        have hr := run_append_in (P := P) (w := w) (ty := o.type) (sLen := 0) (sCap := 0) ht0 ht1 a0 a1 ht hu hut hi (hlen w) (hcells w rfl) (by omega)
        have hr' : (Builtin.append_ c.argTypes o.type (c.args.map a.eval)).run P w = .ok (.slice ao 0 0) w := by
          rw [hr]; cases ao <;> simp [storeCells]
        obtain ⟨ver', E', p1, p2, p3⟩ := set_nil st hlt i.size
        have hk' := (hk ver').2
        rw [hsub] at hk'
        exact runs_of st (hex hr') ⟨_, _, E', fz, hk', p3, p2, by simp only [Rel]; exact .inl ⟨trivial, ao, rfl⟩⟩
      · obtain ⟨w', rest, cap, q1, q2, q3, q4, q5, q6, q7⟩ := run_append_new (P := P) (w := w) (ty := o.type) (base := ao) (sLen := 0) (sCap := 0) (olds := []) ht0 ht1 a0 a1 ht hu hut hi hz hb0 hlen hcells (fun w' _ => by cases ao <;> simp [Builtin.firstCells, loadCells, loadCellsFrom]) (by omega) hby
        obtain ⟨ver', E', p1, p2, p3⟩ := set_new (w' := w') st hlt (rest := rest) (T := e) i.size hyr hone (by simpa using q4) q5 q6 q7
        have hk' := (hk ver').2
        rw [hsub, List.nil_append] at hk'
        refine runs_of st (hex q3) ⟨_, _, E', fz, hk', p3, p2, ?_⟩
        simp only [Rel]
        refine .inr ⟨_, _, _, _, cap, p1, by omega, ?_, by simp⟩
        rw [List.length_append, hnl, q2, hzs, ← Nat.add_mul]
        simp only [Nat.zero_add] at q1 ⊢
        rw [show n + (cap - n) = cap by omega]
        exact Nat.le_refl _
    · have hkk : kk = i.size := by
        rcases st.ok l _ hl with ⟨p1, _⟩ | ⟨_, _, _, _, _, _, _, p1, _⟩ <;> rw [hE] at p1 <;> cases p1
        rfl
      subst hkk
      by_cases hin : len + n ≤ cc
      · have hr := run_append_in (P := P) (w := w) (ty := o.type) ht0 ht1 a0 a1 ht hu hut hi (hlen w) (hcells w rfl) hin
        have hmul : (len + n) * i.size ≤ cc * i.size := Nat.mul_le_mul_right _ hin
        rw [Nat.add_mul] at hmul
        obtain ⟨w', ver', E', p0, p1, p2, p3⟩ := put_more (P := P) st hl hfit hE (by omega) hyr hone
        have hr' : (Builtin.append_ c.argTypes o.type (c.args.map a.eval)).run P w = .ok (.slice (some ⟨b, base + off, none⟩) (len + n) cc) w' := by
          rw [hr]; simp only [add_mk]; rw [show base + off + len * i.size = base + (off + len * i.size) by omega, p0]; rfl
        refine runs_of st (hex hr') ⟨_, _, E', fz, (hk ver').2, p3, p2, ?_⟩
        simp only [Rel]
        exact .inr ⟨b, base + off, cap - off, i.size, cc, p1, hin, by omega, by simp⟩
      · rcases st.ok l _ hl with ⟨g1, g2⟩ | ⟨b', base', cap', arr, T, lo, hi', g1, g2, g3, g4, g5, g6, g7⟩
        · rw [hE] at g1; cases g1
        · rw [hE] at g1; cases g1
          have hsl : (subL cs off (len * i.size)).length = len * i.size := by simp [subL]; omega
          obtain ⟨olds, r1, r2, r3⟩ := ((g6.drop off).take (len * i.size)).read
          have hol : olds.length = len * i.size := by rw [r1.length]; exact hsl
          obtain ⟨w', rest, cap2, q1, q2, q3, q4, q5, q6, q7⟩ := run_append_new (P := P) (w := w) (ty := o.type) (olds := olds) ht0 ht1 a0 a1 ht hu hut hi hz hb0 hlen hcells
            (fun w' hw => run_firstCells_some (P := P) w' i.size len _ len cc olds hol fun j v hv => by rw [add_mk, ← r3 j v hv]; unfold World.cell?; rw [hw]) (by omega) hby
          obtain ⟨ver', E', p1, p2, p3⟩ := set_new (w' := w') st hlt (rest := rest) (T := e) i.size (r1.append hyr) (fun c hc => (List.mem_append.1 hc).elim (r2 c) (hone c)) (by simpa using q4) q5 q6 q7
          refine runs_of st (hex q3) ⟨_, _, E', fz, (hk ver').2, p3, p2, ?_⟩
          simp only [Rel]
          refine .inr ⟨_, _, _, _, cap2, p1, by omega, ?_, by simp⟩
          rw [List.length_append, List.length_append, hol, hnl, q2, hzs, ← Nat.add_mul, ← Nat.add_mul]
          rw [show len + n + (cap2 - (len + n)) = cap2 by omega]
          simp

end
end Go.Vc
