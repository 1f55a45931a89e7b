/-
  The conditions are enough: arithmetic, comparisons, calls, addresses, loads and stores, new rows.
-/
import Derived.Test.YtkemhbclkglmbaaVxF
import Derived.KernelRfl
set_option linter.unusedVariables false
set_option linter.unusedSimpArgs false
namespace Go.Vc
section
variable {P : Program} {E : Env} {fz : Nat → Prop} {S : Store} {w : World} {F : Frame} {a : Act} {K : AVal → Store → Prop} {ro : Bool}

/-! ### Calls -/
theorem calls_rel {f : FuncId} {xs : List AVal} {vals : List Value} (st : St E fz S w) (h : ACalls P f xs S K) (hr : RelL E fz w xs vals) :
    XCalls P f vals.toArray w fun e w'' => ∃ v, e = .returned v ∧ Post K E fz S w v w'' :=
  (h.out E fz w vals st hr).mono fun e w' ⟨r, S', v, E', fz', he, hx, hs, hrel, hk⟩ => ⟨v, he, r, S', E', fz', hk, hx, hs, hrel⟩

theorem run_callFunc {f : FuncId} {args : Array Value} (h : callable P f = true) : (callFunc f args).run P w = .ok (.enter f args) w := by
  unfold callable at h
  cases hf : P.funcs[f]? with
  | none => rw [hf] at h; cases h
  | some fn =>
    rw [hf] at h
    simp only [Bool.and_eq_true, bne_iff_ne, ne_eq] at h
    obtain ⟨h1, h2⟩ := h
    have h3 : fn.body.isNone = false := by cases hh : fn.body <;> simp_all
    have h4 : (fn.name == "runtime.NumGoroutine") = false := by simpa using h2
    simp only [callFunc, Sem.run_bind, run_program, Result.andThen_ok, hf, h4, h3, Bool.false_eq_true, if_false, Sem.run_pure]

theorem XCalls.calls {f : FuncId} {args : Array Value} {R : Ending → World → Prop} (h : XCalls P f args w R) (ha : callable P f = true) : Calls P f args w R := by
  rcases h with ⟨_, h⟩ | ⟨v, w', h, _⟩
  · exact h
  · rw [run_callFunc ha] at h; cases h

theorem call_sound (st : St E fz S w) (hF : RelF E fz w F a.tmps) {o : Oper} {c : Call} {f : FuncId} {xs : List Rand} (ho : o.op = .call c) (hc : c.callee = .value (.func f)) (hargs : cRands c.args.toList = some xs)
    (hf : callable P f = true) (h : vcOp P F S K (.call f xs)) : RunsTo P ((execOp a.eval o).run P w) (Post K E fz S w) := by
  have h1 := evals_rel hF hargs
  simp only [vcOp, rdsK_iff] at h
  have hrun : (execOp a.eval o).run P w = .ok (.enter f (c.args.map a.eval)) w := by
    simp [execOp, ho, resolve, hc, Deferred.ofValue, invoke, Act.eval, run_callFunc hf]
  rw [hrun]
  have := (calls_rel st h h1).calls hf
  simpa [RunsTo, ← Array.toList_map] using this

theorem find_idxb {fn : Func} (h : fn.name = "internal/bytealg.IndexByteString") : Extern.find fn = some Extern.BytealgIndexByte.indexByte := by
  have h1 : Extern.allGenericRows.lookup "internal/bytealg.IndexByteString" = none := by kernel_rfl
  have h2 : Extern.allTypedRows.lookup "internal/bytealg.IndexByteString" = none := by kernel_rfl
  have h3 : Extern.allRows.lookup "internal/bytealg.IndexByteString" = some Extern.BytealgIndexByte.indexByte := by kernel_rfl
  simp only [Extern.find, h, h1, h2, h3, Option.map_none, HOrElse.hOrElse, OrElse.orElse, Option.orElse]
theorem find_cnt {fn : Func} (h : fn.name = "internal/bytealg.CountString") : Extern.find fn = some Extern.BytealgCount.count := by
  have h1 : Extern.allGenericRows.lookup "internal/bytealg.CountString" = none := by kernel_rfl
  have h2 : Extern.allTypedRows.lookup "internal/bytealg.CountString" = none := by kernel_rfl
  have h3 : Extern.allRows.lookup "internal/bytealg.CountString" = some Extern.BytealgCount.count := by kernel_rfl
  simp only [Extern.find, h, h1, h2, h3, Option.map_none, HOrElse.hOrElse, OrElse.orElse, Option.orElse]
theorem extK_idxb {f : FuncId} (h : extK P f = some .idxb) (args : Array Value) (w : World) : (callFunc f args).run P w = ((Extern.BytealgIndexByte.indexByte args).run P w).andThen fun v w' => .ok (.value v) w' := by
  unfold extK at h
  split at h
  · rename_i fn hf
    split at h
    · rename_i hb
      simp only [Bool.and_eq_true] at hb
      split at h
      · rename_i hn
        have hn := eq_of_beq hn
        exact run_callFunc_extern hf (by rw [hn]; rfl) hb.1 (Option.isNone_iff_eq_none.1 hb.2) (find_idxb hn) args w
      · split at h <;> cases h
    · cases h
  · cases h
theorem extK_cnt {f : FuncId} (h : extK P f = some .cnt) (args : Array Value) (w : World) : (callFunc f args).run P w = ((Extern.BytealgCount.count args).run P w).andThen fun v w' => .ok (.value v) w' := by
  unfold extK at h
  split at h
  · rename_i fn hf
    split at h
    · rename_i hb
      simp only [Bool.and_eq_true] at hb
      split at h
      · cases h
      · split at h
        · rename_i hn
          have hn := eq_of_beq hn
          exact run_callFunc_extern hf (by rw [hn]; rfl) hb.1 (Option.isNone_iff_eq_none.1 hb.2) (find_cnt hn) args w
        · cases h
    · cases h
  · cases h
theorem ext_sound (st : St E fz S w) (hF : RelF E fz w F a.tmps) {o : Oper} {c : Call} {f : FuncId} {xs : List Rand} {k : ExtK} (ho : o.op = .call c) (hc : c.callee = .value (.func f)) (hargs : cRands c.args.toList = some xs)
    (hf : extK P f = some k) (h : vcOp P F S K (.ext k xs)) : RunsTo P ((execOp a.eval o).run P w) (Post K E fz S w) := by
  have h1 := evals_rel hF hargs
  simp only [vcOp, rdsK_iff] at h
  have hrun : ∀ v, ((callFunc f (c.args.map a.eval)).run P w = .ok (.value v) w) → (execOp a.eval o).run P w = .ok (.value v) w := fun v hv => by
    simp [execOp, ho, resolve, hc, Deferred.ofValue, invoke, Act.eval, hv]
  have e0 : c.args.map a.eval = (c.args.toList.map a.eval).toArray := by apply Array.ext'; simp
  generalize hX : xs.map (rd F) = X at *
  unfold vcExt at h
  split at h
  · rename_i s n
    simp only [RelL, Rel] at h1
    obtain ⟨v, us, e1, rfl, u, us', rfl, rfl, rfl⟩ := h1
    refine runs_pure st (hrun (.int .i64 (Lib.indexByte s n.toNat.toUInt8)) ?_) h (by simp only [Rel])
    rw [extK_idxb hf, e0, e1, Lib.run_indexByteString]
    rfl
  · rename_i s n
    simp only [RelL, Rel] at h1
    obtain ⟨v, us, e1, rfl, u, us', rfl, rfl, rfl⟩ := h1
    refine runs_pure st (hrun (.int .i64 (Lib.countByte s n.toNat.toUInt8 : Nat)) ?_) h (by simp only [Rel])
    rw [extK_cnt hf, e0, e1, Lib.run_countString]
    rfl
  · exact h.elim

theorem callv_sound (st : St E fz S w) (hF : RelF E fz w F a.tmps) {o : Oper} {c : Call} {x : Operand} {r : Rand} {xs : List Rand} (ho : o.op = .call c) (hc : c.callee = .value x) (hargs : cRands c.args.toList = some xs)
    (hx : cRand x = some r) (h : vcOp P F S K (.callv r xs)) : RunsTo P ((execOp a.eval o).run P w) (Post K E fz S w) := by
  have h1 := evals_rel hF hargs
  have h2 := eval_rel hF hx
  simp only [vcOp, rdK_iff, rdsK_iff] at h
  generalize hX : rd F r = X at *
  cases X <;> first | exact h.elim | skip
  rename_i f first cap
  cases f <;> first | exact h.elim | skip
  rename_i f
  cases first <;> first | exact h.elim | skip
  simp only [Rel] at h2
  obtain ⟨vs, us, e, g1, g2⟩ := h2
  simp only [RelL] at g1
  subst g1
  have := calls_rel st h.2 (h1.append g2)
  have e2 : (c.args.toList.map a.eval ++ us).toArray = c.args.map a.eval ++ us.toArray := by apply Array.ext'; simp
  rw [e2] at this
  rcases this with ⟨ha, this⟩ | ⟨v, w', q1, q2⟩
  · have hrun : (execOp a.eval o).run P w = .ok (.enter f (c.args.map a.eval ++ us.toArray)) w := by
      simp [execOp, ho, resolve, hc, Deferred.ofValue, e, invoke, run_callFunc ha]
    rw [hrun]
    exact this
  · have hrun : (execOp a.eval o).run P w = .ok (.value v) w' := by
      simp [execOp, ho, resolve, hc, Deferred.ofValue, e, invoke, q1]
    rw [hrun]
    obtain ⟨v', e', hp⟩ := q2
    cases e'
    exact hp

/-! ### Least and greatest -/
theorem min_go : ∀ (xs : List AVal) (vs : List Value) (x : AVal) (v : Value) {K : AVal → Prop}, RelL E fz w xs vs → Rel E fz w x v → vcMin x K xs →
    ∃ u y, (vs.foldlM Builtin.min2 v).run P w = .ok u w ∧ K y ∧ Rel E fz w y u
  | [], vs, x, v, K, hl, hr, h => by
    simp only [RelL] at hl; subst hl
    exact ⟨v, x, by simp, h, hr⟩
  | y :: xs, vs, x, v, K, hl, hr, h => by
    simp only [RelL] at hl
    obtain ⟨u, us, rfl, h2, h3⟩ := hl
    cases x <;> cases y <;> simp only [vcMin] at h
    rename_i k n k' m
    obtain ⟨rfl, h⟩ := h
    simp only [Rel] at hr h2
    subst hr h2
    obtain ⟨u', y', q1, q2, q3⟩ := min_go xs us _ (.int k (min n m)) h3 (by simp only [Rel]) h
    refine ⟨u', y', ?_, q2, q3⟩
    simp only [List.foldlM_cons, Sem.run_bind, Builtin.min2, Sem.run_pure, Result.andThen_ok]
    have : (if m < n then m else n) = min n m := by omega
    rw [this]; exact q1

theorem max_go : ∀ (xs : List AVal) (vs : List Value) (x : AVal) (v : Value) {K : AVal → Prop}, RelL E fz w xs vs → Rel E fz w x v → vcMax x K xs →
    ∃ u y, (vs.foldlM Builtin.max2 v).run P w = .ok u w ∧ K y ∧ Rel E fz w y u
  | [], vs, x, v, K, hl, hr, h => by
    simp only [RelL] at hl; subst hl
    exact ⟨v, x, by simp, h, hr⟩
  | y :: xs, vs, x, v, K, hl, hr, h => by
    simp only [RelL] at hl
    obtain ⟨u, us, rfl, h2, h3⟩ := hl
    cases x <;> cases y <;> simp only [vcMax] at h
    rename_i k n k' m
    obtain ⟨rfl, h⟩ := h
    simp only [Rel] at hr h2
    subst hr h2
    obtain ⟨u', y', q1, q2, q3⟩ := max_go xs us _ (.int k (max n m)) h3 (by simp only [Rel]) h
    refine ⟨u', y', ?_, q2, q3⟩
    simp only [List.foldlM_cons, Sem.run_bind, Builtin.max2, Sem.run_pure, Result.andThen_ok]
    have : (if n < m then m else n) = max n m := by omega
    rw [this]; exact q1

theorem minmax_sound (st : St E fz S w) (hF : RelF E fz w F a.tmps) {o : Oper} {c : Call} {xs : List Rand} (ho : o.op = .call c) (hargs : cRands c.args.toList = some xs)
    (h : (c.callee = .builtin .min ∧ vcOp P F S K (.min xs)) ∨ (c.callee = .builtin .max ∧ vcOp P F S K (.max xs))) : RunsTo P ((execOp a.eval o).run P w) (Post K E fz S w) := by
  have h1 := evals_rel hF hargs
  rcases h with ⟨hc, h⟩ | ⟨hc, h⟩ <;> simp only [vcOp, rdsK_iff] at h <;> generalize xs.map (rd F) = ys at * <;> cases ys <;> first | exact h.elim | skip
  all_goals
    rename_i y ys
    simp only [RelL] at h1
    obtain ⟨v, us, e, h2, h3⟩ := h1
  · obtain ⟨u, z, q1, q2, q3⟩ := min_go (P := P) ys us y v h3 h2 h
    exact runs_pure st (by simp [execOp, ho, resolve, hc, invoke, builtin, Builtin.min_, e, q1]) q2 q3
  · obtain ⟨u, z, q1, q2, q3⟩ := max_go (P := P) ys us y v h3 h2 h
    exact runs_pure st (by simp [execOp, ho, resolve, hc, invoke, builtin, Builtin.max_, e, q1]) q2 q3

/-! ### Binary operators -/
theorem eqK_rel {op : BinOp} {r : Bool} {K : AVal → Prop} (h : eqK op r K) : (op = .eql ∧ K (.bool r)) ∨ (op = .neq ∧ K (.bool (!r))) := by
  cases op <;> simp only [eqK] at h <;> first | exact h.elim | skip
  · exact .inl ⟨rfl, h⟩
  · exact .inr ⟨rfl, h⟩

theorem toList_bytes (s : List UInt8) : (⟨s.toArray⟩ : ByteArray).toList = s := by rw [ByteArray.toList_eq]

theorem beq_int (a b : Int) : (a == b) = decide (a = b) := by
  by_cases h : a = b <;> simp [h]
theorem beq_bytes (a b : List UInt8) : (a == b) = decide (a = b) := by
  by_cases h : a = b <;> simp [h]
theorem beq_bool (a b : Bool) : (a == b) = decide (a = b) := by
  by_cases h : a = b <;> simp [h]

theorem eq_cells (d : Nat) : ∀ (fs : List Field) (ks : List FK) (off : Nat) (xs ys : List AVal) (vs us : List Value) (av au : List Value) {K : Bool → Prop}, flatFields P off fs = some ks → RelL E fz w xs vs → RelL E fz w ys us →
    (∀ (i : Nat) v, vs[i]? = some v → av[off + i]? = some v) → (∀ (i : Nat) v, us[i]? = some v → au[off + i]? = some v) → cellsEq ks xs ys K →
    ∃ r, (Op.eqFields (d + 1) av.toArray au.toArray fs).run P w = .ok r w ∧ K r
  | [], ks, off, xs, ys, vs, us, av, au, K, hf, _, _, _, _, h => by
    simp only [flatFields] at hf
    cases hf
    cases xs <;> cases ys <;> simp only [cellsEq] at h
    exact ⟨true, by simp [Op.eqFields], h⟩
  | f :: fs, ks, off, xs, ys, vs, us, av, au, K, hf, hx, hy, h1, h2, h => by
    simp only [flatFields] at hf
    split at hf
    case isFalse => cases hf
    rename_i hname
    simp only [Bool.and_eq_true, bne_iff_ne, ne_eq, beq_iff_eq] at hname
    obtain ⟨fname, foff⟩ := hname
    have main : ∀ {x y : AVal} {xs' ys' : List AVal} {ks' : List FK} {dsc : TypeDesc} {q : Bool} {v u : Value} {vs' us' : List Value}, xs = x :: xs' → ys = y :: ys' → vs = v :: vs' → us = u :: us' → P.underlying f.type = some dsc → isAggD dsc = false →
        flatFields P (off + 1) fs = some ks' → RelL E fz w xs' vs' → RelL E fz w ys' us' →
        (Op.equalIn (d + 1) f.type v u).run P w = .ok q w → (cellsEq ks' xs' ys' fun r => K (q && r)) → ∃ r, (Op.eqFields (d + 1) av.toArray au.toArray (f :: fs)).run P w = .ok r w ∧ K r := by
      intro x y xs' ys' ks' dsc q v u vs' us' ex ey ev eu hd hagg hfs hxs hys hq hk
      subst ex ey ev eu
      have g1 : av[off]? = some v := by simpa using h1 0 v rfl
      have g2 : au[off]? = some u := by simpa using h2 0 u rfl
      have n1 : ∀ (i : Nat) v', vs'[i]? = some v' → av[off + 1 + i]? = some v' := fun i v' hi => by have := h1 (i + 1) v' (by simpa using hi); rwa [show off + (i + 1) = off + 1 + i by omega] at this
      have n2 : ∀ (i : Nat) v', us'[i]? = some v' → au[off + 1 + i]? = some v' := fun i v' hi => by have := h2 (i + 1) v' (by simpa using hi); rwa [show off + (i + 1) = off + 1 + i by omega] at this
      have hpart : ∀ (l : List Value) z, l[off]? = some z → (part f.type l.toArray f.offset).run P w = .ok z w := fun l z hz => by
        have : (isAgg f.type).run P w = .ok false w := by
          simp only [isAgg, Sem.run_bind, run_underlying hd, Result.andThen_ok]
          cases dsc <;> first | rfl | cases hagg
        simp [part, this, foff, hz]
      simp only [Op.eqFields]
      rw [if_pos fname]
      simp only [Sem.run_bind, hpart av v g1, hpart au u g2, Result.andThen_ok, hq]
      obtain ⟨r, q1, q2⟩ := eq_cells d fs ks' (off + 1) xs' ys' vs' us' av au hfs hxs hys n1 n2 hk
      cases q
      · exact ⟨false, by simp, by simpa using q2⟩
      · exact ⟨r, by simpa using q1, by simpa using q2⟩
    split at hf
    · rename_i kk ks' hd hfs
      cases hf
      cases xs with
      | nil => simp only [cellsEq] at h
      | cons x xs =>
        cases ys with
        | nil => cases x <;> simp only [cellsEq] at h
        | cons y ys =>
          simp only [RelL] at hx hy
          obtain ⟨v, vs, rfl, hv, hvs⟩ := hx
          obtain ⟨u, us, rfl, hu, hus⟩ := hy
          cases x <;> cases y <;> simp only [cellsEq] at h
          rename_i k n k' m
          obtain ⟨rfl, h⟩ := h
          simp only [Rel] at hv hu
          subst hv hu
          exact main (q := decide (n = m)) rfl rfl rfl rfl hd rfl hfs hvs hus (by simp [Op.equalIn, run_underlying hd, beq_int]) h
    · rename_i ks' hd hfs
      cases hf
      cases xs with
      | nil => simp only [cellsEq] at h
      | cons x xs =>
        cases ys with
        | nil => cases x <;> simp only [cellsEq] at h
        | cons y ys =>
          simp only [RelL] at hx hy
          obtain ⟨v, vs, rfl, hv, hvs⟩ := hx
          obtain ⟨u, us, rfl, hu, hus⟩ := hy
          cases x <;> cases y <;> simp only [cellsEq] at h
          rename_i n m
          simp only [Rel] at hv hu
          subst hv hu
          exact main (q := decide (n = m)) rfl rfl rfl rfl hd rfl hfs hvs hus (by simp [Op.equalIn, run_underlying hd, beq_toListBytes, toList_bytes, beq_bytes]) h
    · rename_i ks' hd hfs
      cases hf
      cases xs with
      | nil => simp only [cellsEq] at h
      | cons x xs =>
        cases ys with
        | nil => cases x <;> simp only [cellsEq] at h
        | cons y ys =>
          simp only [RelL] at hx hy
          obtain ⟨v, vs, rfl, hv, hvs⟩ := hx
          obtain ⟨u, us, rfl, hu, hus⟩ := hy
          cases x <;> cases y <;> simp only [cellsEq] at h
          rename_i n m
          simp only [Rel] at hv hu
          subst hv hu
          exact main (q := decide (n = m)) rfl rfl rfl rfl hd rfl hfs hvs hus (by simp [Op.equalIn, run_underlying hd, beq_bool]) h
    · cases hf


theorem cellsEq_app : ∀ {k1 k2 : List FK} {xs ys : List AVal} {K : Bool → Prop}, cellsEq (k1 ++ k2) xs ys K →
    xs.length = ys.length ∧ k1.length ≤ xs.length ∧ cellsEq k1 (xs.take k1.length) (ys.take k1.length) fun r => cellsEq k2 (xs.drop k1.length) (ys.drop k1.length) fun q => K (r && q)
  | [], k2, xs, ys, K, h => by
    refine ⟨?_, Nat.zero_le _, ?_⟩
    · have : ∀ (k : List FK) (xs ys : List AVal) (K : Bool → Prop), cellsEq k xs ys K → xs.length = ys.length := by
        intro k
        induction k with
        | nil => intro xs ys K h; cases xs <;> cases ys <;> simp only [cellsEq] at h; rfl
        | cons k ks ih =>
          intro xs ys K h
          cases xs with
          | nil => cases k <;> simp only [cellsEq] at h
          | cons x xs =>
            cases ys with
            | nil => cases k <;> cases x <;> simp only [cellsEq] at h
            | cons y ys =>
              simp only [List.length_cons]
              cases k <;> cases x <;> cases y <;> simp only [cellsEq] at h
              · rw [ih _ _ _ h.2]
              · rw [ih _ _ _ h]
              · rw [ih _ _ _ h]
      exact this _ _ _ _ (by simpa using h)
    · simpa [cellsEq] using h
  | k :: k1, k2, [], ys, K, h => by cases k <;> simp only [List.cons_append, cellsEq] at h
  | k :: k1, k2, x :: xs, [], K, h => by cases k <;> cases x <;> simp only [List.cons_append, cellsEq] at h
  | k :: k1, k2, x :: xs, y :: ys, K, h => by
    cases k <;> cases x <;> cases y <;> simp only [List.cons_append, cellsEq] at h
    · obtain ⟨h1, h2, h3⟩ := cellsEq_app (k1 := k1) h.2
      refine ⟨by simp [h1], by simpa using h2, ?_⟩
      simp only [List.length_cons, List.take_succ_cons, List.drop_succ_cons, cellsEq, Bool.and_assoc]
      exact ⟨h.1, h3⟩
    · obtain ⟨h1, h2, h3⟩ := cellsEq_app (k1 := k1) h
      refine ⟨by simp [h1], by simpa using h2, ?_⟩
      simp only [List.length_cons, List.take_succ_cons, List.drop_succ_cons, cellsEq, Bool.and_assoc]
      exact h3
    · obtain ⟨h1, h2, h3⟩ := cellsEq_app (k1 := k1) h
      refine ⟨by simp [h1], by simpa using h2, ?_⟩
      simp only [List.length_cons, List.take_succ_cons, List.drop_succ_cons, cellsEq, Bool.and_assoc]
      exact h3
theorem eqFields_cons {n : Nat} {a b : Array Value} {f : Field} {fs : List Field} {r1 r2 : Bool} (h1 : (Op.eqFields n a b [f]).run P w = .ok r1 w) (h2 : (Op.eqFields n a b fs).run P w = .ok r2 w) :
    (Op.eqFields n a b (f :: fs)).run P w = .ok (r1 && r2) w := by
  rw [Op.eqFields] at h1 ⊢
  by_cases hn : f.name ≠ "_"
  · rw [if_pos hn] at h1 ⊢
    simp only [Sem.run_bind] at h1 ⊢
    cases e1 : Sem.run P (part f.type a f.offset) w with
    | halt x w1 => rw [e1] at h1; simp [Result.andThen] at h1
    | ok x w1 =>
      rw [e1] at h1
      simp only [Result.andThen_ok] at h1 ⊢
      cases e2 : Sem.run P (part f.type b f.offset) w1 with
      | halt x w1 => rw [e2] at h1; simp [Result.andThen] at h1
      | ok y w2 =>
        rw [e2] at h1
        simp only [Result.andThen_ok] at h1 ⊢
        cases e3 : Sem.run P (Op.equalIn n f.type x y) w2 with
        | halt x w1 => rw [e3] at h1; simp [Result.andThen] at h1
        | ok q w3 =>
          rw [e3] at h1
          simp only [Result.andThen_ok] at h1 ⊢
          cases q
          · simp at h1 ⊢
            obtain ⟨rfl, rfl⟩ := h1
            simp
          · simp [Op.eqFields] at h1 ⊢
            obtain ⟨rfl, rfl⟩ := h1
            simpa using h2
  · rw [if_neg hn] at h1 ⊢
    simp [Op.eqFields] at h1
    subst h1
    simpa using h2
theorem run_size0 {t : TypeId} {n : Nat} (h : tSize P t = some n) (w : World) : (Go.sizeOf t).run P w = .ok n w := by
  unfold tSize at h
  split at h
  · rename_i i hi; cases h; simp [Go.sizeOf, typeInfo, hi]
  · cases h
theorem eq_cells2 (d : Nat) : ∀ (fs : List Field) (ks : List FK) (off : Nat) (xs ys : List AVal) (vs us : List Value) (av au : List Value) {K : Bool → Prop}, flatFields2 P off fs = some ks → RelL E fz w xs vs → RelL E fz w ys us →
    (∀ (i : Nat) v, vs[i]? = some v → av[off + i]? = some v) → (∀ (i : Nat) v, us[i]? = some v → au[off + i]? = some v) → cellsEq ks xs ys K →
    ∃ r, (Op.eqFields (d + 2) av.toArray au.toArray fs).run P w = .ok r w ∧ K r
  | [], ks, off, xs, ys, vs, us, av, au, K, hf, _, _, _, _, h => by
    simp only [flatFields2] at hf
    cases hf
    cases xs <;> cases ys <;> simp only [cellsEq] at h
    exact ⟨true, by simp [Op.eqFields], h⟩
  | f :: fs, ks, off, xs, ys, vs, us, av, au, K, hf, hx, hy, h1, h2, h => by
    have part1 : ∀ {xs : List AVal} {vs : List Value} (n : Nat), RelL E fz w xs vs → RelL E fz w (xs.take n) (vs.take n) := fun {xs vs} n hr => by
      refine RelL.mk (by simp [hr.length]) fun i x v hx hv => ?_
      rw [List.getElem?_take] at hx hv
      split at hx
      · obtain ⟨v', q1, q2⟩ := hr.get hx
        rename_i hi
        rw [if_pos hi, q1] at hv; cases hv
        exact q2
      · cases hx
    have part2 : ∀ {xs : List AVal} {vs : List Value} (n : Nat), RelL E fz w xs vs → RelL E fz w (xs.drop n) (vs.drop n) := fun {xs vs} n hr => by
      refine RelL.mk (by simp [hr.length]) fun i x v hx hv => ?_
      rw [List.getElem?_drop] at hx hv
      obtain ⟨v', q1, q2⟩ := hr.get hx
      rw [q1] at hv; cases hv
      exact q2
    have at1 : ∀ {vs av : List Value} (n : Nat), (∀ (i : Nat) v, vs[i]? = some v → av[off + i]? = some v) → ∀ (i : Nat) v, (vs.take n)[i]? = some v → av[off + i]? = some v := fun n h i v hv => by
      rw [List.getElem?_take] at hv
      split at hv
      · exact h i v hv
      · cases hv
    have at2 : ∀ {vs av : List Value} (n : Nat), (∀ (i : Nat) v, vs[i]? = some v → av[off + i]? = some v) → ∀ (i : Nat) v, (vs.drop n)[i]? = some v → av[off + n + i]? = some v := fun n h i v hv => by
      rw [List.getElem?_drop] at hv
      rw [Nat.add_assoc]
      exact h _ v hv
    simp only [flatFields2] at hf
    split at hf
    · rename_i ks1 hk1
      split at hf <;> cases hf
      rename_i ks2 hk2
      obtain ⟨l1, l2, h⟩ := cellsEq_app h
      obtain ⟨r1, q1, q2⟩ := eq_cells (P := P) (w := w) (d + 1) [f] ks1 off _ _ _ _ av au hk1 (part1 ks1.length hx) (part1 ks1.length hy) (at1 _ h1) (at1 _ h2) h
      obtain ⟨r2, q3, q4⟩ := eq_cells2 d fs ks2 (off + ks1.length) _ _ _ _ av au hk2 (part2 ks1.length hx) (part2 ks1.length hy) (at2 _ h1) (at2 _ h2) q2
      exact ⟨_, eqFields_cons q1 q3, q4⟩
    · split at hf
      case isFalse => cases hf
      rename_i hname
      simp only [Bool.and_eq_true, bne_iff_ne, ne_eq, beq_iff_eq] at hname
      obtain ⟨fname, foff⟩ := hname
      split at hf
      case h_2 => cases hf
      rename_i gs hu
      split at hf
      case h_2 => cases hf
      rename_i ks1 n hk1 hn
      split at hf
      case isFalse => cases hf
      rename_i hc
      simp only [Bool.and_eq_true, Bool.not_eq_true', beq_iff_eq] at hc
      obtain ⟨hc1, hc2⟩ := hc
      split at hf <;> cases hf
      rename_i ks2 hk2
      obtain ⟨l1, l2, h⟩ := cellsEq_app h
      have hext : ∀ l : List Value, l.toArray.extract off (off + n) = ((l.drop off).take n).toArray := fun l => by simp
      have pos : ∀ {vs av : List Value}, (∀ (i : Nat) v, vs[i]? = some v → av[off + i]? = some v) → ∀ (i : Nat) v, (vs.take ks1.length)[i]? = some v → ((av.drop off).take n)[0 + i]? = some v := fun {vs av} h i v hv => by
        rw [List.getElem?_take] at hv
        split at hv
        · rename_i hi
          rw [Nat.zero_add, List.getElem?_take, if_pos (by omega), List.getElem?_drop]
          exact h i v hv
        · cases hv
      obtain ⟨r1, q1, q2⟩ := eq_cells (P := P) (w := w) d gs.toList ks1 0 _ _ _ _ ((av.drop off).take n) ((au.drop off).take n) hk1 (part1 ks1.length hx) (part1 ks1.length hy) (pos h1) (pos h2) h
      have hfo : P.fieldsOf f.type = gs := by simp [Program.fieldsOf, hu]
      have q1' : (Op.eqFields (d + 2) av.toArray au.toArray [f]).run P w = .ok r1 w := by
        have hag : ∀ w, (isAgg f.type).run P w = .ok true w := fun w => by simp [isAgg, run_underlying hu]
        have hp : ∀ l : List Value, (part f.type l.toArray f.offset).run P w = .ok (.agg ((l.drop off).take n).toArray) w := fun l => by
          unfold part
          simp only [Sem.run_bind, hag, Result.andThen_ok, if_true, run_size0 hn, foff, hext, Sem.run_pure]
        simp only [Op.eqFields]
        rw [if_pos fname]
        simp only [Sem.run_bind, hp, Result.andThen_ok]
        rw [run_equalIn_struct w (d + 1) f.type _ _ (by rw [hfo]; exact hu) hc2, hfo, q1]
        cases r1 <;> simp
      obtain ⟨r2, q3, q4⟩ := eq_cells2 d fs ks2 (off + ks1.length) _ _ _ _ av au hk2 (part2 ks1.length hx) (part2 ks1.length hy) (at2 _ h1) (at2 _ h2) q2
      exact ⟨_, eqFields_cons q1' q3, q4⟩

theorem bin_int {op : BinOp} {k : IntKind} {x y : Int} {t : TypeId} {K : AVal → Prop} (h : intBin op k x y K) : ∃ v z, (binOp op t (.int k x) (.int k y)).run P w = .ok v w ∧ K z ∧ Rel E fz w z v := by
  cases op <;> simp only [intBin] at h <;> first | exact h.elim | skip
  case add => obtain ⟨z, h1, h2⟩ := wMk_rel (E := E) (fz := fz) (w := w) h; exact ⟨_, z, by simp [binOp_add, Op.intArith], h1, h2⟩
  case sub => obtain ⟨z, h1, h2⟩ := wMk_rel (E := E) (fz := fz) (w := w) h; exact ⟨_, z, by simp [binOp_sub, Op.intArith], h1, h2⟩
  case mul => obtain ⟨z, h1, h2⟩ := wMk_rel (E := E) (fz := fz) (w := w) h; exact ⟨_, z, by simp [binOp_mul, Op.intArith], h1, h2⟩
  case quo => obtain ⟨z, h1, h2⟩ := wMk_rel (E := E) (fz := fz) (w := w) h.2; exact ⟨_, z, by simp [binOp_quo, Op.intDiv, h.1], h1, h2⟩
  case rem => exact ⟨_, _, by simp [binOp_rem, Op.intDiv, h.1]; rfl, h.2, by simp [Rel]⟩
  case and => exact ⟨_, _, by simp [binOp_and, Op.intBits]; rfl, h, by simp [Rel]⟩
  case or => exact ⟨_, _, by simp [binOp_or, Op.intBits]; rfl, h, by simp [Rel]⟩
  case xor => exact ⟨_, _, by simp [binOp_xor, Op.intBits]; rfl, h, by simp [Rel]⟩
  case eql => exact ⟨_, _, by simp [binOp_eql]; rfl, h, by simp [Rel, beq_int]⟩
  case neq => exact ⟨_, _, by simp [binOp_neq]; rfl, h, by simp [Rel, bne, beq_int]⟩
  case lss => exact ⟨.bool (decide (x < y)), _, by rw [binOp_lss]; rfl, h, by simp [Rel]⟩
  case leq => exact ⟨.bool (decide (x ≤ y)), _, by rw [binOp_leq]; rfl, h, by simp [Rel]⟩
  case gtr => exact ⟨.bool (decide (y < x)), _, by rw [binOp_gtr]; rfl, h, by simp [Rel]⟩
  case geq => exact ⟨.bool (decide (y ≤ x)), _, by rw [binOp_geq]; rfl, h, by simp [Rel]⟩

theorem bin_str {op : BinOp} {x y : List UInt8} {t : TypeId} {K : AVal → Prop} (h : strBin op x y K) : ∃ v z, (binOp op t (.string ⟨x.toArray⟩) (.string ⟨y.toArray⟩)).run P w = .ok v w ∧ K z ∧ Rel E fz w z v := by
  have hb : ∀ op', op' = op → binOp op' t (.string ⟨x.toArray⟩) (.string ⟨y.toArray⟩) = Op.stringOp op' ⟨x.toArray⟩ ⟨y.toArray⟩ := fun op' e => by
    subst e
    cases op' <;> simp only [strBin] at h <;> first | exact h.elim | rfl
  rw [hb op rfl]
  have hsz : ∀ l : List UInt8, (⟨l.toArray⟩ : ByteArray).size = l.length := fun l => by simp [ByteArray.size]
  cases op <;> simp only [strBin] at h <;> first | exact h.elim | skip
  case add =>
    refine ⟨.string (⟨x.toArray⟩ ++ ⟨y.toArray⟩), _, ?_, h.2, ?_⟩
    · have h1 := h.1.2
      simp only [Op.stringOp, hsz]
      rw [if_neg (by simp only [IntKind.max_i64]; omega)]
      simp
    · simp only [Rel]
      congr 1
  case eql => exact ⟨_, _, by simp [Op.stringOp, toList_bytes]; rfl, h, by simp [Rel, beq_bytes]⟩
  case neq => exact ⟨_, _, by simp [Op.stringOp, toList_bytes]; rfl, h, by simp [Rel, beq_bytes]⟩
  case lss => exact ⟨_, _, by simp [Op.stringOp, toList_bytes]; rfl, h, by simp [Rel]⟩
  case leq => exact ⟨_, _, by simp [Op.stringOp, toList_bytes]; rfl, h, by simp [Rel, beq_bytes]⟩
  case gtr => exact ⟨_, _, by simp [Op.stringOp, toList_bytes]; rfl, h, by simp [Rel, beq_bytes]⟩
  case geq => exact ⟨_, _, by simp [Op.stringOp, toList_bytes]; rfl, h, by simp [Rel]⟩

theorem equal_eq (t : TypeId) (v u : Value) : Op.equal t v u = Op.equalIn (9999 + 1) t v u := rfl

theorem bin_eq {op : BinOp} {t : TypeId} {v u : Value} {r : Bool} {K : AVal → Prop} (hb : binOp .eql t v u = (do pure (.bool (← Op.equal t v u))) ∧ binOp .neq t v u = (do pure (.bool (!(← Op.equal t v u)))))
    (hr : (Op.equal t v u).run P w = .ok r w) (h : eqK op r K) : ∃ v' z, (binOp op t v u).run P w = .ok v' w ∧ K z ∧ Rel E fz w z v' := by
  rcases eqK_rel h with ⟨rfl, hk⟩ | ⟨rfl, hk⟩
  · exact ⟨.bool r, _, by rw [hb.1]; simp [hr], hk, by simp [Rel]⟩
  · exact ⟨.bool (!r), _, by rw [hb.2]; simp [hr], hk, by simp [Rel]⟩

end
section
variable {P : Program}
theorem eqr_pp (w : World) (d : Nat) {t : TypeId} {e : TypeId} (ht : P.underlying t = some (.pointer e)) : (Op.equalIn (d + 1) t (.pointer none) (.pointer none)).run P w = .ok true w := by
  simp [Op.equalIn, run_underlying ht]
theorem eqr_pn (w : World) (d : Nat) {t : TypeId} {e : TypeId} {x : Addr} (ht : P.underlying t = some (.pointer e)) : (Op.equalIn (d + 1) t (.pointer (some x)) (.pointer none)).run P w = .ok false w := by
  simp [Op.equalIn, run_underlying ht]
theorem eqr_np (w : World) (d : Nat) {t : TypeId} {e : TypeId} {x : Addr} (ht : P.underlying t = some (.pointer e)) : (Op.equalIn (d + 1) t (.pointer none) (.pointer (some x))).run P w = .ok false w := by
  simp [Op.equalIn, run_underlying ht]
theorem eqr_ff (w : World) (d : Nat) {t : TypeId} {e1 e2 : Array TypeId} {e3 : Bool} (ht : P.underlying t = some (.func e1 e2 e3)) : (Op.equalIn (d + 1) t (.nilFunc) (.nilFunc)).run P w = .ok true w := by
  simp [Op.equalIn, run_underlying ht]
theorem eqr_fn (w : World) (d : Nat) {t : TypeId} {e1 e2 : Array TypeId} {e3 : Bool} {f : Fn} {x y : Array Value} (ht : P.underlying t = some (.func e1 e2 e3)) : (Op.equalIn (d + 1) t (.func f x y) (.nilFunc)).run P w = .ok false w := by
  simp [Op.equalIn, run_underlying ht]
theorem eqr_mm (w : World) (d : Nat) {t : TypeId} {e1 e2 : TypeId} (ht : P.underlying t = some (.map e1 e2)) : (Op.equalIn (d + 1) t (.map none) (.map none)).run P w = .ok true w := by
  simp [Op.equalIn, run_underlying ht]
theorem eqr_mn (w : World) (d : Nat) {t : TypeId} {e1 e2 : TypeId} {b : Nat} (ht : P.underlying t = some (.map e1 e2)) : (Op.equalIn (d + 1) t (.map (some b)) (.map none)).run P w = .ok false w := by
  simp [Op.equalIn, run_underlying ht]
end
section
variable {P : Program} {E : Env} {fz : Nat → Prop} {S : Store} {w : World} {F : Frame} {a : Act} {K : AVal → Store → Prop} {ro : Bool}
theorem eqQ_kind {t : TypeId} {q : EqQ} (hq : eqQ P t = some q) : match q with
    | .ptr => ∃ e, P.underlying t = some (.pointer e)
    | .func => ∃ e1 e2 e3, P.underlying t = some (.func e1 e2 e3)
    | .map => ∃ e1 e2, P.underlying t = some (.map e1 e2)
    | _ => True := by
  unfold eqQ at hq
  split at hq
  case h_4 e hu =>
    split at hq
    · cases hq; exact ⟨e, hu⟩
    · cases hq
  case h_5 fs hu =>
    split at hq
    · split at hq
      · cases hq; trivial
      · cases hq
    · cases hq
  case h_6 e1 e2 e3 hu => cases hq; exact ⟨e1, e2, e3, hu⟩
  case h_7 e1 e2 hu => cases hq; exact ⟨e1, e2, hu⟩
  all_goals cases hq
  all_goals trivial

theorem bin_sound (st : St E fz S w) (hF : RelF E fz w F a.tmps) {o : Oper} {op : BinOp} {t u : TypeId} {x y : Operand} {rx ry : Rand} {q : EqQ} (ho : o.op = .binOp op t x y u) (hq : eqQ P t = some q) (hx : cRand x = some rx) (hy : cRand y = some ry)
    (h : vcOp P F S K (.bin q op rx ry)) : RunsTo P ((execOp a.eval o).run P w) (Post K E fz S w) := by
  have h1 := eval_rel hF hx
  have h2 := eval_rel hF hy
  simp only [vcOp, rdK_iff] at h
  generalize rd F rx = X at *
  generalize rd F ry = Y at *
  have fin : ∀ {v z}, (eqGuard op t x y (a.eval x) (a.eval y)).run P w = .ok () w → (binOp op t (a.eval x) (a.eval y)).run P w = .ok v w → K z S → Rel E fz w z v → RunsTo P ((execOp a.eval o).run P w) (Post K E fz S w) := fun {v z} hg hr hk hrel =>
    runs_pure st (by simp [execOp, ho, hg, hr]) hk hrel
  have guard : ∀ {v u : Value}, a.eval x = v → a.eval y = u → (∀ d, v ≠ .nilIface ∧ v ≠ .agg d) → (eqGuard op t x y (a.eval x) (a.eval y)).run P w = .ok () w := fun {v u} e1 e2 hne => by
    rw [e1, e2]
    have : eqGuard op t x y v u = pure () := by
      cases v <;> first | (cases op <;> rfl) | exact ((hne #[]).1 rfl).elim | (rename_i cs; exact ((hne cs).2 rfl).elim)
    rw [this]; exact Sem.run_pure P w ()
  cases X <;> cases Y <;> simp only [vcBin] at h <;> first | exact h.elim | skip
  case int.int k n k' m =>
    simp only [Rel] at h1 h2
    have hg := guard h1 h2 (fun d => ⟨by simp, by simp⟩)
    rw [h1, h2] at fin hg
    have shl : op = .shl → ∃ v z, (binOp op t (.int k n) (.int k' m)).run P w = .ok v w ∧ K z S ∧ Rel E fz w z v := fun e => by
      subst e
      simp only at h
      obtain ⟨z, g1, g2⟩ := wMk_rel (E := E) (fz := fz) (w := w) h.2
      exact ⟨_, z, by rw [binOp_shl]; simp [Op.shift, Int.not_lt.2 h.1], g1, g2⟩
    have shr : op = .shr → ∃ v z, (binOp op t (.int k n) (.int k' m)).run P w = .ok v w ∧ K z S ∧ Rel E fz w z v := fun e => by
      subst e
      simp only at h
      exact ⟨_, _, by rw [binOp_shr]; simp [Op.shift, Int.not_lt.2 h.1]; rfl, h.2, by simp [Rel]⟩
    have rest : op ≠ .shl → op ≠ .shr → ∃ v z, (binOp op t (.int k n) (.int k' m)).run P w = .ok v w ∧ K z S ∧ Rel E fz w z v := fun e1 e2 => by
      have h' : k = k' ∧ intBin op k n m fun r => K r S := by cases op <;> first | exact h | exact (e1 rfl).elim | exact (e2 rfl).elim
      obtain ⟨rfl, h'⟩ := h'
      exact bin_int h'
    by_cases e1 : op = .shl
    · obtain ⟨v, z, g1, g2, g3⟩ := shl e1; exact fin hg g1 g2 g3
    · by_cases e2 : op = .shr
      · obtain ⟨v, z, g1, g2, g3⟩ := shr e2; exact fin hg g1 g2 g3
      · obtain ⟨v, z, g1, g2, g3⟩ := rest e1 e2; exact fin hg g1 g2 g3
  case str.str n m =>
    simp only [Rel] at h1 h2
    have hg := guard h1 h2 (fun d => ⟨by simp, by simp⟩)
    obtain ⟨v, z, g1, g2, g3⟩ := bin_str (P := P) (E := E) (fz := fz) (w := w) (t := t) h
    exact fin hg (by rw [h1, h2]; exact g1) g2 g3
  case bool.bool n m =>
    simp only [Rel] at h1 h2
    have hg := guard h1 h2 (fun d => ⟨by simp, by simp⟩)
    cases q <;> simp only at h
    have ht : P.underlying t = some .bool := by
      unfold eqQ at hq
      split at hq <;> first | assumption | (cases hq; done) | skip
      all_goals (split at hq <;> first | (cases hq; done) | (split at hq <;> cases hq))
    obtain ⟨v, z, g1, g2, g3⟩ := bin_eq (P := P) (E := E) (fz := fz) (w := w) (t := t) (v := .bool n) (u := .bool m) (r := n == m) ⟨rfl, rfl⟩ (by rw [equal_eq, run_equalIn_bool' w _ t n m ht]) (K := fun r => K r S) (by rw [beq_bool]; exact h)
    exact fin hg (by rw [h1, h2]; exact g1) g2 g3
  case agg.agg xs ys =>
    simp only [Rel] at h1 h2
    obtain ⟨vs, e1, hl1, _⟩ := h1
    obtain ⟨us, e2, hl2, _⟩ := h2
    cases q <;> simp only at h
    rename_i ks
    have ht : ∃ fs : Array Field, P.underlying t = some (.struct fs) ∧ flatFields2 P 0 fs.toList = some ks ∧ P.stoodInHeld t = false ∧ P.eqGuardType P.depth t = false := by
      unfold eqQ at hq
      split at hq
      case h_5 fs hu =>
        split at hq
        · rename_i ks' hk
          split at hq
          · rename_i hc
            cases hq
            simp only [Bool.and_eq_true, Bool.not_eq_true'] at hc
            exact ⟨fs, hu, hk, hc.1, hc.2⟩
          · cases hq
        · cases hq
      all_goals first | (cases hq; done) | (split at hq <;> cases hq)
    obtain ⟨fs, hu, hk, hp, hm⟩ := ht
    have hfo : P.fieldsOf t = fs := by simp [Program.fieldsOf, hu]
    have key : ∃ r, (Op.equal t (.agg vs.toArray) (.agg us.toArray)).run P w = .ok r w ∧ eqK op r fun r => K r S := by
      obtain ⟨r, q1, q2⟩ := eq_cells2 (P := P) (E := E) (fz := fz) (w := w) 9997 fs.toList ks 0 xs ys vs us vs us hk hl1 hl2 (fun i v h => by simpa using h) (fun i v h => by simpa using h) h
      refine ⟨r, ?_, q2⟩
      rw [equal_eq, run_equalIn_struct w 9999 t _ _ (by rw [hfo]; exact hu) hp, hfo]
      exact q1
    obtain ⟨r, q1, q2⟩ := key
    obtain ⟨v, z, g1, g2, g3⟩ := bin_eq (P := P) (E := E) (fz := fz) (w := w) (t := t) ⟨rfl, rfl⟩ q1 q2
    exact fin (by rw [e1, e2]; exact run_eqGuard_agg w op t x y _ _ hm) (by rw [e1, e2]; exact g1) g2 g3
  case nilp.nilp =>
    cases q <;> simp only at h
    obtain ⟨e, ht⟩ := eqQ_kind hq
    simp only [Rel] at h1 h2
    obtain ⟨v, z, g1, g2, g3⟩ := bin_eq (P := P) (E := E) (fz := fz) (w := w) (t := t) (v := .pointer none) (u := .pointer none) ⟨rfl, rfl⟩ (by rw [equal_eq]; exact eqr_pp w 9999 ht) h
    exact fin (guard h1 h2 (fun d => ⟨by simp, by simp⟩)) (by rw [h1, h2]; exact g1) g2 g3
  case ptr.nilp =>
    cases q <;> simp only at h
    obtain ⟨e, ht⟩ := eqQ_kind hq
    simp only [Rel] at h1 h2
    obtain ⟨b, base, cap, k, _, h1⟩ := h1
    obtain ⟨v, z, g1, g2, g3⟩ := bin_eq (P := P) (E := E) (fz := fz) (w := w) (t := t) (v := .pointer (some ⟨b, _, none⟩)) (u := .pointer none) ⟨rfl, rfl⟩ (by rw [equal_eq]; exact eqr_pn w 9999 ht) h
    exact fin (guard h1 h2 (fun d => ⟨by simp, by simp⟩)) (by rw [h1, h2]; exact g1) g2 g3
  case nilp.ptr =>
    cases q <;> simp only at h
    obtain ⟨e, ht⟩ := eqQ_kind hq
    simp only [Rel] at h1 h2
    obtain ⟨b, base, cap, k, _, h2⟩ := h2
    obtain ⟨v, z, g1, g2, g3⟩ := bin_eq (P := P) (E := E) (fz := fz) (w := w) (t := t) (v := .pointer none) (u := .pointer (some ⟨b, _, none⟩)) ⟨rfl, rfl⟩ (by rw [equal_eq]; exact eqr_np w 9999 ht) h
    exact fin (guard h1 h2 (fun d => ⟨by simp, by simp⟩)) (by rw [h1, h2]; exact g1) g2 g3
  case rop.nilp =>
    cases q <;> simp only at h
    obtain ⟨e, ht⟩ := eqQ_kind hq
    simp only [Rel] at h1 h2
    obtain ⟨b, off, _, h1, _⟩ := h1
    obtain ⟨v, z, g1, g2, g3⟩ := bin_eq (P := P) (E := E) (fz := fz) (w := w) (t := t) (v := .pointer (some ⟨b, off, none⟩)) (u := .pointer none) ⟨rfl, rfl⟩ (by rw [equal_eq]; exact eqr_pn w 9999 ht) h
    exact fin (guard h1 h2 (fun d => ⟨by simp, by simp⟩)) (by rw [h1, h2]; exact g1) g2 g3
  case nilp.rop =>
    cases q <;> simp only at h
    obtain ⟨e, ht⟩ := eqQ_kind hq
    simp only [Rel] at h1 h2
    obtain ⟨b, off, _, h2, _⟩ := h2
    obtain ⟨v, z, g1, g2, g3⟩ := bin_eq (P := P) (E := E) (fz := fz) (w := w) (t := t) (v := .pointer none) (u := .pointer (some ⟨b, off, none⟩)) ⟨rfl, rfl⟩ (by rw [equal_eq]; exact eqr_np w 9999 ht) h
    exact fin (guard h1 h2 (fun d => ⟨by simp, by simp⟩)) (by rw [h1, h2]; exact g1) g2 g3
  case nilf.nilf =>
    cases q <;> simp only at h
    obtain ⟨e, e2, e3, ht⟩ := eqQ_kind hq
    simp only [Rel] at h1 h2
    obtain ⟨v, z, g1, g2, g3⟩ := bin_eq (P := P) (E := E) (fz := fz) (w := w) (t := t) (v := .nilFunc) (u := .nilFunc) ⟨rfl, rfl⟩ (by rw [equal_eq]; exact eqr_ff w 9999 ht) h
    exact fin (guard h1 h2 (fun d => ⟨by simp, by simp⟩)) (by rw [h1, h2]; exact g1) g2 g3
  case fn.nilf f0 _ _ =>
    cases q <;> simp only at h
    obtain ⟨e, e2, e3, ht⟩ := eqQ_kind hq
    simp only [Rel] at h1 h2
    obtain ⟨vs, us, h1, _, _⟩ := h1
    obtain ⟨v, z, g1, g2, g3⟩ := bin_eq (P := P) (E := E) (fz := fz) (w := w) (t := t) (v := .func f0 vs.toArray us.toArray) (u := .nilFunc) ⟨rfl, rfl⟩ (by rw [equal_eq]; exact eqr_fn w 9999 ht) h
    exact fin (guard h1 h2 (fun d => ⟨by simp, by simp⟩)) (by rw [h1, h2]; exact g1) g2 g3
  case nilm.nilm =>
    cases q <;> simp only at h
    obtain ⟨e, e2, ht⟩ := eqQ_kind hq
    simp only [Rel] at h1 h2
    obtain ⟨v, z, g1, g2, g3⟩ := bin_eq (P := P) (E := E) (fz := fz) (w := w) (t := t) (v := .map none) (u := .map none) ⟨rfl, rfl⟩ (by rw [equal_eq]; exact eqr_mm w 9999 ht) h
    exact fin (guard h1 h2 (fun d => ⟨by simp, by simp⟩)) (by rw [h1, h2]; exact g1) g2 g3
  case map.nilm =>
    cases q <;> simp only at h
    obtain ⟨e, e2, ht⟩ := eqQ_kind hq
    simp only [Rel] at h1 h2
    obtain ⟨b, _, h1⟩ := h1
    obtain ⟨v, z, g1, g2, g3⟩ := bin_eq (P := P) (E := E) (fz := fz) (w := w) (t := t) (v := .map (some b)) (u := .map none) ⟨rfl, rfl⟩ (by rw [equal_eq]; exact eqr_mn w 9999 ht) h
    exact fin (guard h1 h2 (fun d => ⟨by simp, by simp⟩)) (by rw [h1, h2]; exact g1) g2 g3

end
end Go.Vc
