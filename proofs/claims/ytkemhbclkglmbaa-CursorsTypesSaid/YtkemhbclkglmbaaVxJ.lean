/-
  The conditions are enough: made rows, literals, append.
-/
import Derived.Test.YtkemhbclkglmbaaVxI
import Derived.Laws.MakeOwn
set_option linter.unusedVariables false
set_option linter.unusedSimpArgs false
namespace Go.Vc
section
variable {P : Program} {E : Env} {fz : Nat → Prop} {S : Store} {w : World} {F : Frame} {a : Act} {K : AVal → Store → Prop} {ro : Bool}

theorem flatten_rep_length (z : List AVal) (n : Nat) : (List.replicate n z).flatten.length = n * z.length := by
  induction n with
  | zero => simp
  | succ n ih => simp [List.replicate_succ, Nat.succ_mul]; omega
theorem flatten_rep_get (z : List AVal) (n i : Nat) (hi : i < n * z.length) : (List.replicate n z).flatten[i]? = z[i % z.length]? := by
  induction n generalizing i with
  | zero => simp at hi
  | succ n ih =>
    simp only [List.replicate_succ, List.flatten_cons]
    by_cases h : i < z.length
    · rw [List.getElem?_append_left h, Nat.mod_eq_of_lt h]
    · rw [List.getElem?_append_right (by omega), ih _ (by rw [Nat.add_mul, Nat.one_mul] at hi; omega), ← Nat.mod_eq_sub_mod (by omega)]

theorem made_rel {z : List AVal} {v : Value} (h : RelL E fz w z v.cells.toList) (h1 : ∀ c ∈ v.cells.toList, c.oneCell' = true) (hz : 0 < z.length) (n : Nat) :
    RelL E fz w (List.replicate n z).flatten (madeCells v.cells (n * z.length)).toList ∧ ∀ c ∈ (madeCells v.cells (n * z.length)).toList, c.oneCell' = true := by
  have hl := h.length
  have hsz : v.cells.size = z.length := by simpa using hl
  have get : ∀ i, i < n * z.length → ∃ c, (madeCells v.cells (n * z.length)).toList[i]? = some c ∧ v.cells.toList[i % z.length]? = some c := fun i hi => by
    have hm : i % z.length < v.cells.size := by rw [hsz]; exact Nat.mod_lt _ hz
    refine ⟨v.cells[i % z.length], ?_, by simp⟩
    simp [madeCells, hi, hsz]
    exact getElem!_pos v.cells (i % z.length) hm
  refine ⟨RelL.mk (by simp [madeCells, flatten_rep_length]) fun i x u hx hu => ?_, fun c hc => ?_⟩
  · have hi : i < n * z.length := by
      have := (List.getElem?_eq_some_iff.1 hx).1
      rwa [flatten_rep_length] at this
    rw [flatten_rep_get z n i hi] at hx
    obtain ⟨c, g1, g2⟩ := get i hi
    rw [hu] at g1; cases g1
    obtain ⟨u', q1, q2⟩ := h.get hx
    rw [g2] at q1; cases q1
    exact q2
  · obtain ⟨i, hi, e⟩ := List.mem_iff_getElem.1 hc
    have hi' : i < n * z.length := by simpa [madeCells] using hi
    obtain ⟨c', g1, g2⟩ := get i hi'
    rw [List.getElem?_eq_getElem hi, e] at g1; cases g1
    exact h1 c (List.mem_of_getElem? g2)

theorem mkslice_sound (st : St E fz S w) (hF : RelF E fz w F a.tmps) {o : Oper} {t e : TypeId} {x y : Operand} {rx ry : Rand} {n b : Nat} {z : List AVal} (ho : o.op = .makeSlice t x y) (ht : P.underlying t = some (.slice e)) (hn : tSize P e = some n) (hb : tBytes P e = some b) (hz : tZero P e = some z) (h0 : 0 < n) (hb0 : 0 < b) (hzl : z.length = n) (hx : cRand x = some rx) (hy : cRand y = some ry)
    (h : vcOp P F S K (.mkslice n b z rx ry)) : RunsTo P ((execOp a.eval o).run P w) (Post K E fz S w) := by
  have hr1 := eval_rel hF hx
  have hr2 := eval_rel hF hy
  simp only [vcOp, rdK_iff, wPush_iff] at h
  obtain ⟨k, m, ex, hyx, hm, hk⟩ := wIdx_iff h
  rw [hyx, ex] at hr2
  rw [ex] at hr1
  simp only [Rel] at hr1 hr2
  have hzz : ∃ i zv, P.info? e = some i ∧ i.zero = some zv ∧ absL zv.cells.toList = some z ∧ i.size = n ∧ i.bytes = b := by
    unfold tZero at hz
    unfold tSize at hn
    unfold tBytes at hb
    split at hz
    · rename_i i hi
      rw [hi] at hn hb
      split at hz
      · rename_i zv hzv
        exact ⟨i, zv, hi, hzv, hz, by simpa using hn, by simpa using hb⟩
      · cases hz
    · cases hz
  obtain ⟨i, zv, hi, hzv, hab, hsz, hby⟩ := hzz
  have hmm : m ≤ b * m := Nat.le_mul_of_pos_left m hb0
  have hrun := run_make (P := P) w t e i zv ht hi hzv k k (m : Int) (m : Int) (by omega) (Int.le_refl _) (by rw [hby, ← Int.natCast_mul]; omega) (by omega)
  have hrel := absL_rel (E := E) (fz := fz) (w := w) hab
  obtain ⟨g1, g2⟩ := made_rel hrel.1 hrel.2 (by omega) m
  rw [hzl] at g1 g2
  obtain ⟨ver, E', q1, q2, q3⟩ := new_row (w' := w.alloc (.cells (madeCells zv.cells (m * n)) e)) st (rest := []) (T := e) n g1 g2 (by rw [List.append_nil]; rfl) rfl rfl ⟨rfl, Nat.le_refl _⟩
  have hlen : (madeCells zv.cells (m * n)).toList.length = m * n := by simp [madeCells]
  refine runs_of st (v := .slice (some ⟨w.heap.size, 0, none⟩) m m) (w' := w.alloc (.cells (madeCells zv.cells (m * n)) e)) ?_ ⟨.sl S.length ver 0 m, _, E', fz, hk ver, q3, q2, ?_⟩
  · simp only [execOp, ho, hr1, hr2]
    simp only [Int.toNat_natCast, hsz] at hrun
    simp [hrun]
  · simp only [Rel]
    refine .inr ⟨_, _, _, _, m, q1, Nat.le_refl _, ?_, rfl⟩
    simp [hlen]

/-! ### Literals -/
theorem foldl_put (off : Nat) : ∀ (l : List Value) (i : Nat) (cs : Array Value), off + i + l.length ≤ cs.size → ∀ j, ((l.zipIdx i).foldl (fun cs (x : Value × Nat) => cs.setIfInBounds (off + x.2) x.1) cs)[j]? =
    if off + i ≤ j ∧ j < off + i + l.length then l[j - (off + i)]? else cs[j]?
  | [], i, cs, _, j => by simp; omega
  | v :: l, i, cs, h, j => by
    simp only [List.length_cons] at h
    simp only [List.zipIdx_cons, List.foldl_cons]
    rw [foldl_put off l (i + 1) (cs.setIfInBounds (off + i) v) (by simp; omega) j]
    simp only [List.length_cons, Array.getElem?_setIfInBounds]
    by_cases e : j = off + i
    · subst e
      rw [if_neg (by omega), if_pos rfl, if_pos (by omega), if_pos (by omega)]
      simp
    · by_cases e2 : off + i ≤ j ∧ j < off + i + (l.length + 1)
      · rw [if_pos (by omega), if_pos e2, show j - (off + i) = (j - (off + (i + 1))) + 1 by omega]
        simp
      · rw [if_neg (by omega), if_neg (fun h => e h.symm), if_neg e2]
theorem foldl_put_size (off : Nat) : ∀ (l : List Value) (i : Nat) (cs : Array Value), ((l.zipIdx i).foldl (fun cs (x : Value × Nat) => cs.setIfInBounds (off + x.2) x.1) cs).size = cs.size
  | [], i, cs => by simp
  | v :: l, i, cs => by simp only [List.zipIdx_cons, List.foldl_cons]; rw [foldl_put_size off l (i + 1)]; simp

theorem fill_go (hF : RelF E fz w F a.tmps) (place : Nat → Option (Nat × Nat)) : ∀ (parts : List (Nat × Operand)) (ps : List (Nat × Nat × Rand)) (cs : List AVal) (arr : Array Value) {Q : List AVal → Prop},
    ps.length = parts.length → (∀ (j : Nat) i x off n r, parts[j]? = some (i, x) → ps[j]? = some (off, n, r) → place i = some (off, n) ∧ cRand x = some r) →
    RelL E fz w cs arr.toList → (∀ c ∈ arr.toList, c.oneCell' = true) → wFill F cs Q ps →
    ∃ (cs' : List AVal) (arr' : Array Value), Instr.fill place arr (parts.map fun (i, x) => (i, a.eval x)) = some arr' ∧ Q cs' ∧ RelL E fz w cs' arr'.toList ∧ (∀ c ∈ arr'.toList, c.oneCell' = true) ∧ cs'.length = cs.length
  | [], [], cs, arr, Q, _, _, hr, h1, h => ⟨cs, arr, rfl, h, hr, h1, rfl⟩
  | [], p :: ps, cs, arr, Q, hl, _, _, _, _ => by simp at hl
  | q :: parts, [], cs, arr, Q, hl, _, _, _, _ => by simp at hl
  | (i, x) :: parts, (off, n, r) :: ps, cs, arr, Q, hl, hp, hr, h1, h => by
    obtain ⟨hplace, hxr⟩ := hp 0 i x off n r rfl rfl
    simp only [wFill, rdK_iff] at h
    obtain ⟨ys, ⟨hyl, hfit, hk⟩, hys, hone⟩ := wCells_rel h (eval_rel hF hxr)
    simp only [setCellsK_iff] at hk
    have hcl : (a.eval x).cells.size = n := by have := hys.length; simp at this; omega
    have harr : arr.size = cs.length := by have := hr.length; simpa using this
    have hget := foldl_put off (a.eval x).cells.toList 0 arr (by simp; omega)
    have hsz := foldl_put_size off (a.eval x).cells.toList 0 arr
    generalize hg : ((a.eval x).cells.toList.zipIdx 0).foldl (fun cs (x : Value × Nat) => cs.setIfInBounds (off + x.2) x.1) arr = arr1 at hget hsz
    have hr' : RelL E fz w (setCells cs off ys) arr1.toList := by
      refine RelL.mk (by rw [setCells_length]; simp; omega) fun j y v hy hv => ?_
      rw [setCells_get cs off ys j (by omega)] at hy
      rw [Array.getElem?_toList, hget] at hv
      split at hy
      · rename_i hh
        rw [if_pos (by simp; omega)] at hv
        obtain ⟨v', q1, q2⟩ := hys.get hy
        simp only [Nat.add_zero] at hv
        rw [hv] at q1; cases q1; exact q2
      · rename_i hh
        rw [if_neg (by simp; omega)] at hv
        obtain ⟨v', q1, q2⟩ := hr.get hy
        rw [Array.getElem?_toList, hv] at q1; cases q1; exact q2
    have h1' : ∀ c ∈ arr1.toList, c.oneCell' = true := fun c hc => by
      obtain ⟨j, hj, e⟩ := List.mem_iff_getElem.1 hc
      have hv : arr1[j]? = some c := by rw [← Array.getElem?_toList, List.getElem?_eq_getElem hj, e]
      rw [hget] at hv
      split at hv
      · exact hone c (List.mem_of_getElem? hv)
      · exact h1 c (by rw [← Array.getElem?_toList] at hv; exact List.mem_of_getElem? hv)
    obtain ⟨cs', arr', p1, p2, p3, p4, p5⟩ := fill_go hF place parts ps (setCells cs off ys) arr1 (by simpa using hl) (fun j i' x' off' n' r' g1 g2 => hp (j + 1) i' x' off' n' r' (by simpa using g1) (by simpa using g2)) hr' h1' hk
    refine ⟨cs', arr', ?_, p2, p3, p4, by rw [p5, setCells_length]⟩
    simp only [List.map_cons, Instr.fill, hplace]
    rw [if_neg (by simp [hcl]; omega)]
    refine Eq.trans (congrArg (fun z => Instr.fill place z _) ?_) p1
    rw [← hg, ← Array.foldl_toList, Array.toList_zipIdx]

theorem structParts_ok {fs : Array Field} : ∀ {parts : List (Nat × Operand)} {ps : List (Nat × Nat × Rand)}, cStructParts P fs parts = some ps → ps.length = parts.length ∧
    ∀ (j : Nat) i x off n r, parts[j]? = some (i, x) → ps[j]? = some (off, n, r) → (∃ f, fs[i]? = some f ∧ f.offset = off ∧ tSize P f.type = some n) ∧ cRand x = some r
  | [], ps, h => by simp [cStructParts] at h; subst h; simp
  | (i, x) :: rest, ps, h => by
    simp only [cStructParts] at h
    split at h
    · rename_i f r qs h1 h2 h3
      split at h
      · rename_i n hn
        cases h
        have ih := structParts_ok h3
        refine ⟨by simp [ih.1], fun j i' x' off n' r' g1 g2 => ?_⟩
        cases j with
        | zero => simp at g1 g2; obtain ⟨rfl, rfl⟩ := g1; obtain ⟨rfl, rfl, rfl⟩ := g2; exact ⟨⟨f, h1, rfl, hn⟩, h2⟩
        | succ j => exact ih.2 j i' x' off n' r' (by simpa using g1) (by simpa using g2)
      · cases h
    · cases h
theorem rowParts_ok {k : Nat} : ∀ {parts : List (Nat × Operand)} {ps : List (Nat × Nat × Rand)}, cRowParts k parts = some ps → ps.length = parts.length ∧
    ∀ (j : Nat) i x off n r, parts[j]? = some (i, x) → ps[j]? = some (off, n, r) → (off = i * k ∧ n = k) ∧ cRand x = some r
  | [], ps, h => by simp [cRowParts] at h; subst h; simp
  | (i, x) :: rest, ps, h => by
    simp only [cRowParts] at h
    split at h
    · rename_i r qs h2 h3
      cases h
      have ih := rowParts_ok h3
      refine ⟨by simp [ih.1], fun j i' x' off n' r' g1 g2 => ?_⟩
      cases j with
      | zero => simp at g1 g2; obtain ⟨rfl, rfl⟩ := g1; obtain ⟨rfl, rfl, rfl⟩ := g2; exact ⟨⟨rfl, rfl⟩, h2⟩
      | succ j => exact ih.2 j i' x' off n' r' (by simpa using g1) (by simpa using g2)
    · cases h

theorem mapM_places {fs : Array Field} (hs : ∀ f ∈ fs.toList, ∃ n, tSize P f.type = some n) : ∃ pl : Array (Nat × Nat), (fs.mapM fun f => (do pure (f.offset, ← sizeOf f.type) : Sem (Nat × Nat))).run P w = .ok pl w ∧
    ∀ (i : Nat) f n, fs[i]? = some f → tSize P f.type = some n → pl[i]? = some (f.offset, n) := by
  rw [Array.mapM_eq_mapM_toList]
  have key : ∀ l : List Field, (∀ f ∈ l, ∃ n, tSize P f.type = some n) → ∃ pl : List (Nat × Nat), (l.mapM fun f => (do pure (f.offset, ← sizeOf f.type) : Sem (Nat × Nat))).run P w = .ok pl w ∧
      ∀ (i : Nat) f n, l[i]? = some f → tSize P f.type = some n → pl[i]? = some (f.offset, n) := by
    intro l
    induction l with
    | nil => intro _; exact ⟨[], by simp, by simp⟩
    | cons f l ih =>
      intro h
      obtain ⟨pl, h1, h2⟩ := ih fun g hg => h g (by simp [hg])
      obtain ⟨n, hn⟩ := h f (by simp)
      refine ⟨(f.offset, n) :: pl, by simp only [List.mapM_cons, Sem.run_bind, run_size hn, Result.andThen_ok, Sem.run_pure, h1], fun i g m hg hm => ?_⟩
      cases i with
      | zero => simp at hg; subst hg; rw [hn] at hm; cases hm; rfl
      | succ i => simpa using h2 i g m (by simpa using hg) hm
  obtain ⟨pl, h1, h2⟩ := key fs.toList hs
  exact ⟨pl.toArray, by rw [Sem.run_map, h1]; rfl, fun i f n hf hn => by simpa using h2 i f n (by simpa using hf) hn⟩


theorem build_struct_sound (st : St E fz S w) (hF : RelF E fz w F a.tmps) {o : Oper} {t : TypeId} {parts : Array (Nat × Operand)} {ps : List (Nat × Nat × Rand)} {z : List AVal} {fs : Array Field} (ho : o.op = .build t parts) (ht : P.underlying t = some (.struct fs)) (hz : tZero P t = some z) (hs : ∀ f ∈ fs.toList, ∃ n, tSize P f.type = some n) (hps : cStructParts P fs parts.toList = some ps)
    (h : vcOp P F S K (.build z ps)) : RunsTo P ((execOp a.eval o).run P w) (Post K E fz S w) := by
  simp only [vcOp] at h
  obtain ⟨v, g1, g2, g3⟩ := run_zero hz w
  obtain ⟨pl, p1, p2⟩ := mapM_places (P := P) (w := w) hs
  obtain ⟨q1, q2⟩ := structParts_ok hps
  obtain ⟨cs', arr', r1, r2, r3, r4, _⟩ := fill_go hF (pl[·]?) parts.toList ps z v.cells q1 (fun j i x off n r e1 e2 => by
    obtain ⟨⟨f, h1, h2, h3⟩, h4⟩ := q2 j i x off n r e1 e2
    exact ⟨by rw [p2 i f n h1 h3, h2], h4⟩) (g2 E fz w) g3 h
  refine runs_pure st (v := .agg arr') ?_ r2 ?_
  · have e : (parts.map fun (i, x) => (i, a.eval x)).toList = parts.toList.map fun (i, x) => (i, a.eval x) := by simp
    simp only [execOp, ho, Instr.build, Sem.run_bind, g1, Result.andThen_ok, run_underlying ht, p1, e, r1, Sem.run_pure]
  · simp only [Rel]; exact ⟨arr'.toList, by simp, r3, r4⟩

theorem build_array_sound (st : St E fz S w) (hF : RelF E fz w F a.tmps) {o : Oper} {t e : TypeId} {parts : Array (Nat × Operand)} {ps : List (Nat × Nat × Rand)} {z : List AVal} {len n : Nat} (ho : o.op = .build t parts) (ht : P.underlying t = some (.array len e)) (hz : tZero P t = some z) (hn : tSize P e = some n) (hps : cRowParts n parts.toList = some ps)
    (h : vcOp P F S K (.build z ps)) : RunsTo P ((execOp a.eval o).run P w) (Post K E fz S w) := by
  simp only [vcOp] at h
  obtain ⟨v, g1, g2, g3⟩ := run_zero hz w
  obtain ⟨q1, q2⟩ := rowParts_ok hps
  obtain ⟨cs', arr', r1, r2, r3, r4, _⟩ := fill_go hF (fun i => some (i * n, n)) parts.toList ps z v.cells q1 (fun j i x off n' r e1 e2 => by
    obtain ⟨⟨h1, h2⟩, h4⟩ := q2 j i x off n' r e1 e2
    exact ⟨by rw [h1, h2], h4⟩) (g2 E fz w) g3 h
  refine runs_pure st (v := .agg arr') ?_ r2 ?_
  · have e : (parts.map fun (i, x) => (i, a.eval x)).toList = parts.toList.map fun (i, x) => (i, a.eval x) := by simp
    simp only [execOp, ho, Instr.build, Sem.run_bind, g1, Result.andThen_ok, run_underlying ht, run_size hn, e, r1, Sem.run_pure]
  · simp only [Rel]; exact ⟨arr'.toList, by simp, r3, r4⟩

/-- A block that no one writes any more. -/
theorem freeze_new (st : St E fz S w) {cs : List AVal} {arr : Array Value} {T : TypeId} (hr : RelL E fz w cs arr.toList) (h1 : ∀ c ∈ arr.toList, c.oneCell' = true) :
    St E (fun b => fz b ∨ b = w.heap.size) S (w.alloc (.cells arr T)) ∧ Ext E fz S w E (fun b => fz b ∨ b = w.heap.size) S (w.alloc (.cells arr T)) ∧
      RelC E (fun b => fz b ∨ b = w.heap.size) (w.alloc (.cells arr T)) w.heap.size 0 cs := by
  have hlt : ∀ b : Nat, b < w.heap.size → (w.alloc (.cells arr T)).heap[b]? = w.heap[b]? := fun b hb => by
    simp only [World.alloc]; rw [Array.getElem?_push, if_neg (by omega)]
  have hnew : (w.alloc (.cells arr T)).heap[w.heap.size]? = some (.cells arr T (0, 0)) := by
    show (w.heap.push _)[w.heap.size]? = _
    simp
  refine ⟨⟨fun l o hl => ?_, st.sep, fun b hb => ?_, st.fresh⟩, ⟨fun _ _ h => h, fun _ h => .inl h, fun b hb => ?_, fun b hb _ => hlt b hb, fun _ h => .inl h, by simp, rfl, rfl, ⟨rfl, Nat.le_refl _⟩⟩, RelC.mk fun i x hx => ?_⟩
  · refine (st.ok l o hl).mono (fun _ _ h => h) (fun _ h => .inl h) (fun b hb => hlt b (st.fzlt b hb)) fun b hb => ?_
    have := st.own_lt ⟨o, hl, hb⟩
    exact ⟨hlt b this.1, fun h => h.elim this.2 fun e => by omega⟩
  · rcases hb with hb | rfl
    · have := st.fzlt b hb; simp; omega
    · simp
  · rcases hb with hb | rfl
    · exact .inl hb
    · exact .inr (.inr (Nat.le_refl _))
  · obtain ⟨v, hv, hrel⟩ := hr.get hx
    refine ⟨v, ?_, h1 v (List.mem_of_getElem? hv), hrel.mono (fun _ _ h => h) (fun _ h => .inl h) (fun b hb => hlt b (st.fzlt b hb))⟩
    rw [cell_mk hnew, Nat.zero_add, ← Array.getElem?_toList]
    exact hv

theorem bslice_sound (st : St E fz S w) (hF : RelF E fz w F a.tmps) {o : Oper} {t e : TypeId} {parts : Array (Nat × Operand)} {ps : List (Nat × Nat × Rand)} {z : List AVal} {len n : Nat} (ho : o.op = .buildSlice t len parts) (ht : P.underlying t = some (.slice e)) (hn : tSize P e = some n) (hz : tZero P e = some z) (hlim : len * n ≤ 2 ^ 24) (h0 : 0 < n) (hzl : z.length = n) (hps : cRowParts n parts.toList = some ps)
    (h : vcOp P F S K (.bslice ro len n (List.replicate len z).flatten ps)) : RunsTo P ((execOp a.eval o).run P w) (Post K E fz S w) := by
  simp only [vcOp] at h
  obtain ⟨v, g1, g2, g3⟩ := run_zero hz w
  obtain ⟨q1, q2⟩ := rowParts_ok hps
  obtain ⟨m1, m2⟩ := made_rel (g2 E fz w) g3 (by omega) len
  rw [hzl] at m1 m2
  obtain ⟨cs', arr', r1, r2, r3, r4, r5⟩ := fill_go hF (fun i => some (i * n, n)) parts.toList ps _ (madeCells v.cells (len * n)) q1 (fun j i x off n' r e1 e2 => by
    obtain ⟨⟨h1, h2⟩, h4⟩ := q2 j i x off n' r e1 e2
    exact ⟨by rw [h1, h2], h4⟩) m1 m2 h
  have hlen : arr'.toList.length = len * n := by rw [r3.length, r5, flatten_rep_length, hzl]
  have hrun : (execOp a.eval o).run P w = .ok (.value (.slice (some ⟨w.heap.size, 0, none⟩) len len)) (w.alloc (.cells arr' e)) := by
    have e1 : (parts.map fun (i, x) => (i, a.eval x)).toList = parts.toList.map fun (i, x) => (i, a.eval x) := by simp
    by_cases hl0 : len * n = 0
    · have hlen0 : len = 0 := by
        rcases Nat.mul_eq_zero.1 hl0 with h | h
        · exact h
        · omega
      have e2 : madeCells v.cells (len * n) = (Array.range (len * n)).map ((#[] : Array Value)[· % 0]!) := by rw [hl0]; simp [madeCells, Array.range_zero']
      simp only [execOp, ho, Instr.buildSlice, Sem.run_bind, run_underlying ht, Result.andThen_ok, run_size hn]
      rw [if_neg (by omega), if_pos hl0]
      rw [e2] at r1
      simp only [Sem.run_bind, Sem.run_pure, Result.andThen_ok, e1]
      simp only [List.size_toArray, List.length_nil] at *
      rw [r1]
      rfl
    · simp only [execOp, ho, Instr.buildSlice, Sem.run_bind, run_underlying ht, Result.andThen_ok, run_size hn]
      rw [if_neg (by omega), if_neg hl0]
      simp only [Sem.run_bind, g1, Sem.run_pure, Result.andThen_ok, e1]
      have : (Array.range (len * n)).map (v.cells[· % v.cells.size]!) = madeCells v.cells (len * n) := rfl
      rw [this, r1]
      rfl
  cases ro
  · simp only [wPush_iff] at r2
    obtain ⟨ver, E', p1, p2, p3⟩ := new_row (w' := w.alloc (.cells arr' e)) st (rest := []) (T := e) n r3 r4 (by rw [List.append_nil]; rfl) rfl rfl ⟨rfl, Nat.le_refl _⟩
    refine runs_of st hrun ⟨.sl S.length ver 0 len, _, E', fz, r2 ver, p3, p2, ?_⟩
    simp only [Rel]
    exact .inr ⟨_, _, _, _, len, p1, Nat.le_refl _, by simp at hlen ⊢; omega, rfl⟩
  · obtain ⟨p1, p2, p3⟩ := freeze_new (T := e) st r3 r4
    refine runs_of st hrun ⟨.ros len cs', S, E, _, r2, p2, p1, ?_⟩
    simp only [Rel]
    exact .inr ⟨w.heap.size, 0, len, .inr rfl, Nat.le_refl _, rfl, p3⟩

end
end Go.Vc
