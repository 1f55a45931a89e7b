/-
  The conditions are enough: indexed places, slices, literals, made rows.
-/
import Derived.Test.YtkemhbclkglmbaaVxH
set_option linter.unusedVariables false
set_option linter.unusedSimpArgs false
namespace Go.Vc
section
variable {P : Program} {E : Env} {fz : Nat → Prop} {S : Store} {w : World} {F : Frame} {a : Act} {K : AVal → Store → Prop} {ro : Bool}

theorem wIdx_iff {x : AVal} {K : Nat → Prop} (h : wIdx x K) : ∃ (k : IntKind) (j : Nat), x = .int k (j : Int) ∧ K j := by
  cases x <;> simp only [wIdx] at h
  obtain ⟨j, rfl, hk⟩ := h
  exact ⟨_, j, rfl, hk⟩

theorem iaddr_slice_sound (st : St E fz S w) (hF : RelF E fz w F a.tmps) {o : Oper} {t e : TypeId} {x i : Operand} {rx ri : Rand} {k : Nat} (ho : o.op = .indexAddr t x i) (ht : P.underlying t = some (.slice e)) (hk : tSize P e = some k) (hx : cRand x = some rx) (hi : cRand i = some ri)
    (h : vcOp P F S K (.iaddr k none rx ri)) : RunsTo P ((execOp a.eval o).run P w) (Post K E fz S w) := by
  have hr := eval_rel hF hx
  have hri := eval_rel hF hi
  simp only [vcOp, rdK_iff] at h
  have h' := h
  clear h
  obtain ⟨ki, j, ei, h⟩ := wIdx_iff h'
  clear h'
  rw [ei] at hri
  simp only [Rel] at hri
  generalize rd F rx = X at *
  have go : ∀ {b off len cap : Nat} {y : AVal}, a.eval x = .slice (some ⟨b, off, none⟩) len cap → j < len → K y S → Rel E fz w y (.pointer (some ⟨b, off + j * k, none⟩)) → RunsTo P ((execOp a.eval o).run P w) (Post K E fz S w) := fun {b off len cap y} ex hlt hk' hrel => by
    refine runs_pure st ?_ hk' hrel
    have : (0 : Int) ≤ (j : Int) ∧ (j : Int) < (len : Int) := by omega
    simp [execOp, ho, Instr.indexAt, hri, asIntOf, run_underlying ht, ex, this, run_size hk, add_mk]
    omega
  cases X <;> first | exact h.elim | skip
  case ros n cs =>
    simp only at h
    obtain ⟨hlt, xs, htk, hk'⟩ := h
    simp only [Rel] at hr
    rcases hr with ⟨rfl, _⟩ | ⟨b, off, c, hb, hle, ex, hc⟩
    · omega
    · obtain ⟨e2, _⟩ := takeN_eq htk
      exact go ex hlt hk' (by simp only [Rel]; exact ⟨b, off + j * k, hb, rfl, e2 ▸ (hc.drop _).take _⟩)
  case sl l ver off n =>
    simp only at h
    obtain ⟨hlt, h⟩ := h
    obtain ⟨k', cs, hl, rfl, hk'⟩ := wRow_iff.1 h
    simp only [Rel] at hr
    rcases hr with ⟨rfl, _⟩ | ⟨b, base, cap, kk, c, hE, hle, _, ex⟩
    · omega
    · exact go ex hlt hk' (by simp only [Rel]; exact ⟨b, base, cap, kk, hE, by rw [Nat.add_assoc]⟩)

theorem iaddr_array_sound (st : St E fz S w) (hF : RelF E fz w F a.tmps) {o : Oper} {t e : TypeId} {x i : Operand} {rx ri : Rand} {k len : Nat} (ho : o.op = .indexAddr t x i) (ht : P.underlying t = some (.array len e)) (hk : tSize P e = some k) (hx : cRand x = some rx) (hi : cRand i = some ri)
    (h : vcOp P F S K (.iaddr k (some len) rx ri)) : RunsTo P ((execOp a.eval o).run P w) (Post K E fz S w) := by
  have hr := eval_rel hF hx
  have hri := eval_rel hF hi
  simp only [vcOp, rdK_iff] at h
  have h' := h
  clear h
  obtain ⟨ki, j, ei, h⟩ := wIdx_iff h'
  clear h'
  rw [ei] at hri
  simp only [Rel] at hri
  generalize rd F rx = X at *
  have go : ∀ {b off : Nat} {y : AVal}, a.eval x = .pointer (some ⟨b, off, none⟩) → j < len → K y S → Rel E fz w y (.pointer (some ⟨b, off + j * k, none⟩)) → RunsTo P ((execOp a.eval o).run P w) (Post K E fz S w) := fun {b off y} ex hlt hk' hrel => by
    refine runs_pure st ?_ hk' hrel
    have : (0 : Int) ≤ (j : Int) ∧ (j : Int) < (len : Int) := by omega
    simp [execOp, ho, Instr.indexAt, hri, asIntOf, run_underlying ht, ex, Instr.sureAddr, this, run_size hk, add_mk]
    omega
  cases X <;> first | exact h.elim | skip
  case ptr l ver off =>
    simp only at h
    simp only [Rel] at hr
    obtain ⟨b, base, cap, kk, hE, ex⟩ := hr
    exact go ex h.1 h.2 (by simp only [Rel]; exact ⟨b, base, cap, kk, hE, by rw [Nat.add_assoc]⟩)
  case rop cs =>
    simp only at h
    simp only [Rel] at hr
    obtain ⟨b, off, hb, ex, hc⟩ := hr
    exact go ex h.1 h.2 (by simp only [Rel]; exact ⟨b, off + j * k, hb, rfl, hc.drop _⟩)

theorem index_str_sound (st : St E fz S w) (hF : RelF E fz w F a.tmps) {o : Oper} {t : TypeId} {x i : Operand} {rx ri : Rand} (ho : o.op = .index t x i) (ht : P.underlying t = some .string) (hx : cRand x = some rx) (hi : cRand i = some ri)
    (h : vcOp P F S K (.index 1 none false rx ri)) : RunsTo P ((execOp a.eval o).run P w) (Post K E fz S w) := by
  have hr := eval_rel hF hx
  have hri := eval_rel hF hi
  simp only [vcOp, rdK_iff] at h
  have h' := h
  clear h
  obtain ⟨ki, j, ei, h⟩ := wIdx_iff h'
  clear h'
  rw [ei] at hri
  simp only [Rel] at hri
  generalize rd F rx = X at *
  cases X <;> first | exact h.elim | skip
  case str s =>
    simp only at h
    obtain ⟨c, hc, hk'⟩ := h
    simp only [Rel] at hr
    refine runs_pure st (v := .int .u8 (c.toNat : Int)) ?_ hk' (by simp [Rel])
    have hg : (⟨s.toArray⟩ : ByteArray)[j]? = some c := by
      have hlt : j < s.length := by
        rcases Nat.lt_or_ge j s.length with h | h
        · exact h
        · simp [List.getElem?_eq_none h] at hc
      have hlt' : j < (⟨s.toArray⟩ : ByteArray).size := by simpa [ByteArray.size] using hlt
      rw [getElem?_pos (⟨s.toArray⟩ : ByteArray) j hlt']
      rw [List.getElem?_eq_getElem hlt] at hc
      simpa [ByteArray.getElem_eq_getElem_data] using hc
    simp [execOp, ho, Instr.index, hri, asIntOf, run_underlying ht, hr, hg]

theorem index_array_sound (st : St E fz S w) (hF : RelF E fz w F a.tmps) {o : Oper} {t e : TypeId} {x i : Operand} {rx ri : Rand} {k len : Nat} {u : TypeDesc} (ho : o.op = .index t x i) (ht : P.underlying t = some (.array len e)) (hu : P.underlying e = some u) (hk : tSize P e = some k) (hk1 : isAggD u = false → k = 1)
    (hx : cRand x = some rx) (hi : cRand i = some ri)
    (h : vcOp P F S K (.index k (some len) (isAggD u) rx ri)) : RunsTo P ((execOp a.eval o).run P w) (Post K E fz S w) := by
  have hr := eval_rel hF hx
  have hri := eval_rel hF hi
  simp only [vcOp, rdK_iff] at h
  have h' := h
  clear h
  obtain ⟨ki, j, ei, h⟩ := wIdx_iff h'
  clear h'
  rw [ei] at hri
  simp only [Rel] at hri
  generalize rd F rx = X at *
  cases X <;> first | exact h.elim | skip
  case agg cs =>
    simp only at h
    obtain ⟨hlt, xs, htk, hk'⟩ := h
    simp only [Rel] at hr
    obtain ⟨vs, ex, hl, hone⟩ := hr
    obtain ⟨e2, hle⟩ := takeN_eq htk
    have hlt' : (0 : Int) ≤ (j : Int) ∧ (j : Int) < (len : Int) := by omega
    rcases mkVK_iff.1 hk' with ⟨hag, hk2⟩ | ⟨hag, y, rfl, hk2⟩
    · refine runs_pure st (v := .agg ((vs.drop (j * k)).take k).toArray) ?_ hk2 ?_
      · simp [execOp, ho, Instr.index, hri, asIntOf, run_underlying ht, ex, hlt', part, run_isAgg hu, hag, run_size hk]
        omega
      · simp only [Rel]
        exact ⟨_, rfl, e2 ▸ (hl.drop _).take _, fun c hc => hone c (List.mem_of_mem_drop (List.mem_of_mem_take hc))⟩
    · have hk1' := hk1 hag
      subst hk1'
      have hy : cs[j * 1]? = some y := by
        have := congrArg (·[0]?) e2
        simp [List.getElem?_take, List.getElem?_drop] at this
        simpa using this.symm
      obtain ⟨v, hv, hrel⟩ := hl.get hy
      refine runs_pure st (v := v) ?_ hk2 hrel
      have hv' : vs[j]? = some v := by simpa using hv
      simp [execOp, ho, Instr.index, hri, asIntOf, run_underlying ht, ex, hlt', part, run_isAgg hu, hag, run_size hk, hv']
      omega

/-! ### Cutting -/
theorem opt_rel (hF : RelF E fz w F a.tmps) {x : Option Operand} {r : Option Rand} (hx : cOpt x = some r) :
    (x = none ∧ r = none) ∨ ∃ y s, x = some y ∧ r = some s ∧ Rel E fz w (rd F s) (a.eval y) := by
  cases x with
  | none => simp [cOpt] at hx; exact .inl ⟨rfl, hx.symm⟩
  | some y =>
    simp only [cOpt] at hx
    split at hx
    · rename_i s hs; cases hx; exact .inr ⟨y, s, rfl, rfl, eval_rel hF hs⟩
    · cases hx

theorem bounds_ok {isS : Bool} {len cap : Nat} {lo hi : Option Value} {j h : Nat} (hj : j ≤ h) (hh : h ≤ len) (hc : len ≤ cap)
    (hlo : (lo = none ∧ j = 0) ∨ ∃ k, lo = some (.int k (j : Int))) (hhi : (hi = none ∧ h = len) ∨ ∃ k, hi = some (.int k (h : Int))) :
    (Instr.sliceBounds isS len cap lo hi none).run P w = .ok (j, h, cap) w := by
  have b1 : ∀ k code, (Instr.sliceBound (.int k (h : Int)) cap code).run P w = .ok h w := fun k code => by
    rw [run_sliceBound w k h cap code (by omega) (by omega)]; simp
  have b2 : ∀ k code, (Instr.sliceBound (.int k (j : Int)) h code).run P w = .ok j w := fun k code => by
    rw [run_sliceBound w k j h code (by omega) (by omega)]; simp
  rcases hlo with ⟨rfl, rfl⟩ | ⟨k1, rfl⟩ <;> rcases hhi with ⟨rfl, rfl⟩ | ⟨k2, rfl⟩ <;> simp [Instr.sliceBounds, b1, b2]

theorem cut_bounds (hF : RelF E fz w F a.tmps) {n : Nat} {lo hi : Option Operand} {rlo rhi : Option Rand} {Q : Nat → Nat → Prop} (hlo : cOpt lo = some rlo) (hhi : cOpt hi = some rhi)
    (h : wHi F n rhi fun h => wLo F rlo fun j => Q j h) : ∃ j h, Q j h ∧ ((lo.map a.eval = none ∧ j = 0) ∨ ∃ k, lo.map a.eval = some (.int k (j : Int))) ∧ ((hi.map a.eval = none ∧ h = n) ∨ ∃ k, hi.map a.eval = some (.int k (h : Int))) := by
  have l1 : ∀ {K : Nat → Prop}, wLo F rlo K → ∃ j, K j ∧ ((lo.map a.eval = none ∧ j = 0) ∨ ∃ k, lo.map a.eval = some (.int k (j : Int))) := fun {K} hk => by
    rcases opt_rel hF hlo with ⟨rfl, rfl⟩ | ⟨y, s, rfl, rfl, hr⟩
    · exact ⟨0, hk, .inl ⟨rfl, rfl⟩⟩
    · simp only [wLo, rdK_iff] at hk
      obtain ⟨k, j, e, hk⟩ := wIdx_iff hk
      rw [e] at hr
      simp only [Rel] at hr
      exact ⟨j, hk, .inr ⟨k, by simp [hr]⟩⟩
  have l2 : ∃ h, (wLo F rlo fun j => Q j h) ∧ ((hi.map a.eval = none ∧ h = n) ∨ ∃ k, hi.map a.eval = some (.int k (h : Int))) := by
    rcases opt_rel hF hhi with ⟨rfl, rfl⟩ | ⟨y, s, rfl, rfl, hr⟩
    · exact ⟨n, h, .inl ⟨rfl, rfl⟩⟩
    · simp only [wHi, rdK_iff] at h
      obtain ⟨k, j, e, hk⟩ := wIdx_iff h
      rw [e] at hr
      simp only [Rel] at hr
      exact ⟨j, hk, .inr ⟨k, by simp [hr]⟩⟩
  obtain ⟨h, hk, g2⟩ := l2
  obtain ⟨j, hq, g1⟩ := l1 hk
  exact ⟨j, h, hq, g1, g2⟩

theorem slice_str_sound (st : St E fz S w) (hF : RelF E fz w F a.tmps) {o : Oper} {t : TypeId} {x : Operand} {lo hi : Option Operand} {rx : Rand} {rlo rhi : Option Rand} (ho : o.op = .slice t x lo hi none) (ht : P.underlying t = some .string) (hx : cRand x = some rx) (hlo : cOpt lo = some rlo) (hhi : cOpt hi = some rhi)
    (h : vcOp P F S K (.slice 0 rx rlo rhi)) : RunsTo P ((execOp a.eval o).run P w) (Post K E fz S w) := by
  have hr := eval_rel hF hx
  simp only [vcOp, rdK_iff] at h
  generalize rd F rx = X at *
  cases X <;> first | exact h.elim | skip
  case str s =>
    simp only at h
    obtain ⟨j, hh, ⟨q1, q2, q3⟩, g1, g2⟩ := cut_bounds hF hlo hhi h
    simp only [Rel] at hr
    have hsz : (⟨s.toArray⟩ : ByteArray).size = s.length := by simp [ByteArray.size]
    have hb := bounds_ok (P := P) (w := w) (isS := false) q1 q2 (Nat.le_refl _) g1 g2
    refine runs_pure st (v := .string ((⟨s.toArray⟩ : ByteArray).extract j hh)) ?_ q3 ?_
    · simp [execOp, ho, Instr.sliceAt, run_underlying ht, Instr.slice, hr, hsz, hb]
    · simp only [Rel]
      congr 1
      apply ByteArray.ext
      simp [ByteArray.data_extract, List.drop_take]

theorem slice3_sound (st : St E fz S w) (hF : RelF E fz w F a.tmps) {o : Oper} {t e : TypeId} {x h m : Operand} {rx rh rm : Rand} {k : Nat} (ho : o.op = .slice t x none (some h) (some m)) (ht : P.underlying t = some (.slice e)) (hk : tSize P e = some (k + 1)) (hx : cRand x = some rx) (hh : cRand h = some rh) (hm : cRand m = some rm)
    (h : vcOp P F S K (.slice3 (k + 1) rx rh rm)) : RunsTo P ((execOp a.eval o).run P w) (Post K E fz S w) := by
  have hr := eval_rel hF hx
  have hr1 := eval_rel hF hh
  have hr2 := eval_rel hF hm
  simp only [vcOp, rdK_iff] at h
  obtain ⟨kk, n, e1, e2, h⟩ := wIdx_iff h
  rw [e2, e1] at hr2
  rw [e1] at hr1
  simp only [Rel] at hr1 hr2
  generalize rd F rx = X at hr h
  have go : ∀ {ao : Option Addr} {len c : Nat} {y : AVal}, a.eval x = .slice ao len c → n ≤ c → K y S → Rel E fz w y (.slice (if n = 0 then ao else ao.map (·.add (0 * (k + 1)))) (n - 0) (n - 0)) → RunsTo P ((execOp a.eval o).run P w) (Post K E fz S w) := fun {ao len c y} ex q1 hk' hrel => by
    have b1 : ∀ code, (Instr.sliceBound (.int kk (n : Int)) c code).run P w = .ok n w := fun code => by
      rw [run_sliceBound w kk n c code (by omega) (by omega)]; simp
    have b2 : ∀ code, (Instr.sliceBound (.int kk (n : Int)) n code).run P w = .ok n w := fun code => by
      rw [run_sliceBound w kk n n code (by omega) (by omega)]; simp
    refine runs_pure st ?_ hk' hrel
    simp [execOp, ho, Instr.sliceAt, run_underlying ht, Instr.slice, Instr.sliceBounds, ex, hr1, hr2, b1, b2, run_size hk]
  cases X <;> first | exact h.elim | skip
  case nils =>
    obtain ⟨rfl, h⟩ := h
    simp only [Rel] at hr
    exact go hr (Nat.le_refl _) h (by simp [Rel])
  case sl lc ver off len =>
    simp only at h
    obtain ⟨q1, q2⟩ := h
    obtain ⟨k', cs, hl, e4, hk'⟩ := wRow_iff.1 q2
    subst e4
    simp only [Rel] at hr
    rcases hr with ⟨rfl, ao, ex⟩ | ⟨b, base, cap, kk', c, hE, hle, hcap, ex⟩
    · obtain rfl : n = 0 := by omega
      exact go ex (Nat.le_refl _) hk' (by simp [Rel])
    · have hkk : kk' = k + 1 := by
        rcases st.ok lc _ hl with ⟨p1, _⟩ | ⟨_, _, _, _, _, _, _, p1, _⟩ <;> rw [hE] at p1 <;> cases p1
        rfl
      subst hkk
      refine go ex (by omega) hk' ?_
      simp only [Rel]
      by_cases e : n = 0
      · exact .inl ⟨e, _, by rw [if_pos e, e]⟩
      · refine .inr ⟨b, base, cap, k + 1, n, hE, Nat.le_refl _, ?_, by rw [if_neg e]; simp [add_mk, Nat.add_assoc]⟩
        have := Nat.mul_le_mul_right (k + 1) (show n ≤ c by omega)
        omega

theorem slice_slice_sound (st : St E fz S w) (hF : RelF E fz w F a.tmps) {o : Oper} {t e : TypeId} {x : Operand} {lo hi : Option Operand} {rx : Rand} {rlo rhi : Option Rand} {k : Nat} (ho : o.op = .slice t x lo hi none) (ht : P.underlying t = some (.slice e)) (hk : tSize P e = some (k + 1)) (hx : cRand x = some rx) (hlo : cOpt lo = some rlo) (hhi : cOpt hi = some rhi)
    (h : vcOp P F S K (.slice (k + 1) rx rlo rhi)) : RunsTo P ((execOp a.eval o).run P w) (Post K E fz S w) := by
  have hr := eval_rel hF hx
  simp only [vcOp, rdK_iff] at h
  generalize rd F rx = X at *
  have go : ∀ {ao : Option Addr} {n c j h : Nat} {y : AVal}, a.eval x = .slice ao n c → j ≤ h → h ≤ n → n ≤ c → ((lo.map a.eval = none ∧ j = 0) ∨ ∃ k, lo.map a.eval = some (.int k (j : Int))) → ((hi.map a.eval = none ∧ h = n) ∨ ∃ k, hi.map a.eval = some (.int k (h : Int))) →
      K y S → Rel E fz w y (.slice (if c = j then ao else ao.map (·.add (j * (k + 1)))) (h - j) (c - j)) → RunsTo P ((execOp a.eval o).run P w) (Post K E fz S w) := fun {ao n c j h y} ex q1 q2 q3 g1 g2 hk' hrel => by
    have hb := bounds_ok (P := P) (w := w) (isS := true) q1 q2 q3 g1 g2
    refine runs_pure st ?_ hk' hrel
    simp [execOp, ho, Instr.sliceAt, run_underlying ht, Instr.slice, ex, hb, run_size hk]
  cases X <;> first | exact h.elim | skip
  case nils =>
    simp only at h
    obtain ⟨j, hh, ⟨rfl, rfl, q3⟩, g1, g2⟩ := cut_bounds hF hlo hhi h
    simp only [Rel] at hr
    exact go hr (Nat.le_refl _) (Nat.le_refl _) (Nat.le_refl _) g1 g2 q3 (by simp [Rel])
  case sl l ver off n =>
    simp only at h
    obtain ⟨j, hh, ⟨q1, q2, q3⟩, g1, g2⟩ := cut_bounds hF hlo hhi h
    obtain ⟨k', cs, hl, rfl, hk'⟩ := wRow_iff.1 q3
    simp only [Rel] at hr
    rcases hr with ⟨rfl, ao, ex⟩ | ⟨b, base, cap, kk, c, hE, hle, hcap, ex⟩
    · obtain rfl : hh = 0 := by omega
      obtain rfl : j = 0 := by omega
      exact go ex (Nat.le_refl _) (Nat.le_refl _) (Nat.le_refl _) g1 g2 hk' (by simp [Rel])
    · have hkk : kk = k + 1 := by
        rcases st.ok l _ hl with ⟨p1, _⟩ | ⟨_, _, _, _, _, _, _, p1, _⟩ <;> rw [hE] at p1 <;> cases p1
        rfl
      subst hkk
      refine go ex q1 q2 hle g1 g2 hk' ?_
      simp only [Rel]
      by_cases e : c = j
      · exact .inl ⟨by omega, _, by rw [if_pos e, e, Nat.sub_self, show hh - j = 0 by omega]⟩
      · refine .inr ⟨b, base, cap, k + 1, c - j, hE, by omega, ?_, by rw [if_neg e]; simp [add_mk, Nat.add_assoc]⟩
        have : j * (k + 1) + (c - j) * (k + 1) = c * (k + 1) := by rw [← Nat.add_mul, Nat.add_sub_cancel' (by omega)]
        omega
  case ros n cs =>
    simp only at h
    obtain ⟨j, hh, ⟨q1, q2, q3, hk'⟩, g1, g2⟩ := cut_bounds hF hlo hhi h
    simp only [Rel] at hr
    rcases hr with ⟨rfl, ao, c, ex⟩ | ⟨b, off, c, hb, hle, ex, hc⟩
    · obtain rfl : hh = 0 := by omega
      obtain rfl : j = 0 := by omega
      exact go ex (Nat.le_refl _) (Nat.le_refl _) (Nat.zero_le _) g1 g2 hk' (by simp [Rel])
    · refine go ex q1 q2 hle g1 g2 hk' ?_
      simp only [Rel]
      by_cases e : c = j
      · exact .inl ⟨by omega, _, _, by rw [if_pos e, show hh - j = 0 by omega]⟩
      · exact .inr ⟨b, off + j * (k + 1), c - j, hb, by omega, by rw [if_neg e]; simp [add_mk], (hc.drop _).take _⟩

end
end Go.Vc
