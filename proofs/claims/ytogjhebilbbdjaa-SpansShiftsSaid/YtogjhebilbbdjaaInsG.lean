/- A span put into a row of spans, walked: search, copy, put in. Conditions: none. -/
import Derived.Test.YtogjhebilbbdjaaInsF
import Derived.Deep.RegionWith
set_option linter.unusedVariables false
set_option linter.unusedSimpArgs false
namespace Go.Proofs
open Go.RowKit Go.Shelf Go.Vc Go.Fu
theorem flat_get0 : ∀ (l : List (Int × Int)) (j : Nat) (s : Int × Int), l[j]? = some s → (flat l)[j * 2]? = some (.int .i64 s.1) ∧ (flat l)[j * 2 + 1]? = some (.int .i64 s.2)
  | [], j, s, h => by simp at h
  | a :: l, 0, s, h => by
    simp at h; subst h
    rw [flat_cons]; exact ⟨rfl, rfl⟩
  | a :: l, j + 1, s, h => by
    have := flat_get0 l j s (by simpa using h)
    rw [flat_cons, show (j + 1) * 2 = j * 2 + 1 + 1 by omega]
    simpa using this
theorem flat_sp {w : World} {b off : Nat} {l : List (Int × Int)} (h : FlAt w b off (flat l)) : SpAt w b off l := fun j s hj => by
  obtain ⟨h1, h2⟩ := flat_get0 l j s hj
  exact ⟨h _ _ h1, by rw [Nat.add_assoc]; exact h _ _ h2⟩
theorem SpIn.below {l : List (Int × Int)} {v : Value} {w W : World} (h : SpIn l v w) (hb : Below w.heap.size w W) : SpIn l v W := by
  rcases h with h | ⟨b, off, c, h1, h2, h3, h4⟩
  · exact .inl h
  · exact .inr ⟨b, off, c, h1, h2, Nat.lt_of_lt_of_le h3 hb.size, fun j v hj => by
      rw [World.cell?_of_block (a := ⟨b, off + j, none⟩) (hb.block b h3)]; exact h4 j v hj⟩
set_option maxHeartbeats 4000000 in
set_option maxRecDepth 100000 in
theorem bs_nil (a : Option Addr) (c : Nat) (lo : Int) (w : World) : Calls Try.prog 22 #[.slice a 0 c, .int .i64 lo, .func (.func 23) #[] #[]] w fun e w' => ∃ (i : Nat) (f : Bool), e = .returned (.tuple #[.int .i64 i, .bool f]) ∧ i = 0 ∧ w' = w := by
  go_enter Try.func22, Try.ntmps22
  go_wp2
  go_loopw [9, 10] (fun vi vj wr => vi = .int .i64 0 ∧ vj = .int .i64 0 ∧ wr = w) (fun i j _ => 0)
  case atStart => exact ⟨rfl, rfl, rfl⟩
  case round =>
    obtain ⟨rfl, rfl, rfl⟩ := hrel
    go_wp2
    go_ret2
    exact ⟨0, _, rfl, rfl, rfl⟩
/-- Where s.1 goes. -/
def PlIn (l : List (Int × Int)) (lo : Int) (i : Nat) : Prop := i ≤ l.length ∧ (∀ j s, j < i → l[j]? = some s → s.1 < lo) ∧ (∀ j s, i ≤ j → l[j]? = some s → lo ≤ s.1)
theorem bs_any (l : List (Int × Int)) (lo : Int) (hlo : -1000000 ≤ lo ∧ lo ≤ 1000000) (hl : ∀ s ∈ l, -1000000 ≤ s.1 ∧ s.1 ≤ 1000000) (hn : l.length ≤ 1000000) (asc : ∀ i j : Nat, i ≤ j → ∀ s t, l[i]? = some s → l[j]? = some t → s.1 ≤ t.1)
    (v : Value) (w : World) (h : SpIn l v w) :
    Calls Try.prog 22 #[v, .int .i64 lo, .func (.func 23) #[] #[]] w fun e w' => ∃ (i : Nat) (f : Bool), e = .returned (.tuple #[.int .i64 i, .bool f]) ∧ PlIn l lo i ∧ Below w.heap.size w w' := by
  rcases h with ⟨rfl, a, c, rfl⟩ | ⟨b, off, c, rfl, h2, h3, h4⟩
  · refine (bs_nil a c lo w).mono ?_
    rintro e w' ⟨i, f, rfl, rfl, rfl⟩
    exact ⟨0, f, rfl, ⟨Nat.le_refl _, fun j s h => absurd h (Nat.not_lt_zero _), fun j s _ h => by simp at h⟩, Below.refl _ _⟩
  · refine (bsearch l lo hlo hl hn asc b off c w h3 (flat_sp h4)).mono ?_
    rintro e w' ⟨i, f, rfl, g1, g2, g3, g4⟩
    exact ⟨i, f, rfl, ⟨g1, g2, g3⟩, g4⟩
set_option maxHeartbeats 4000000 in
set_option maxRecDepth 100000 in
theorem clone_zero (ad : Addr) (c : Nat) (w : World) : Calls Try.prog 26 #[.slice (some ad) 0 c] w fun e w' => ∃ v, e = .returned v ∧ Below w.heap.size w w' ∧ ∃ a, v = .slice a 0 0 := by
  have hb := bin_nil (some ad) 0 c
  obtain ⟨i0, hi0, hz0, hby, z, hz, hzc⟩ := span_info
  obtain ⟨W, hW⟩ : ∃ W, W = w.alloc (.cells #[] 24) := ⟨_, rfl⟩
  have bW : Below w.heap.size w W := by rw [hW]; exact (Below.refl _ w).alloc (Nat.le_refl _) _
  have hrun : ∀ ty, (Builtin.append_ #[22, 22] ty #[.slice (some ⟨w.heap.size, 0, none⟩) 0 0, .slice (some ad) 0 c]).run Try.prog W = .ok (.slice (some ⟨w.heap.size, 0, none⟩) 0 0) W := fun ty => by
    rw [run_append_in (P := Try.prog) (w := W) (base := some ⟨w.heap.size, 0, none⟩) (sLen := 0) (sCap := 0) (n := 0) (news := []) (i := i0) (t := 22) (u := 22) rfl rfl rfl rfl Try.underlying22 Try.underlying22 (.inl ⟨_, rfl⟩) hi0 (by simp [Builtin.lenOf])
      (run_firstCells_some (P := Try.prog) W i0.size 0 ad 0 c [] (by simp) fun j v hj => by simp at hj) (by omega)]
    rfl
  rw [hW] at hrun bW
  go_enter Try.func26, Try.ntmps26
  go_wp2_with (at_builtin; refine Lib.wpList_append_run _ rfl _ _ _ _ rfl _ _ rfl rfl _ _ (hrun _) ?_)
  go_ret
  exact ⟨_, rfl, bW, _, rfl⟩
theorem clone_any (l : List (Int × Int)) (hn : l.length ≤ 100000) (v : Value) (w : World) (h : SpIn l v w) : Calls Try.prog 26 #[v] w fun e w' => ∃ u, e = .returned u ∧ Below w.heap.size w w' ∧ RowB w.heap.size l u w' := by
  rcases h with ⟨rfl, a, c, rfl⟩ | ⟨b, off, c, rfl, h2, h3, h4⟩
  · cases a with
    | none =>
      refine (clone_nil c w).mono ?_
      rintro e w' ⟨rfl, rfl⟩
      exact ⟨_, rfl, Below.refl _ _, .inl ⟨rfl, none, rfl⟩⟩
    | some a =>
      refine (clone_zero a c w).mono ?_
      rintro e w' ⟨v, rfl, hb, a, rfl⟩
      exact ⟨_, rfl, hb, .inl ⟨rfl, a, rfl⟩⟩
  · refine (clone_some b off l.length c (flat l) w hn (flat_len l) h3 h4 (flat_one l)).mono ?_
    rintro e w' ⟨u, rfl, hb, ⟨h0, a, rfl⟩ | ⟨cap, rest, bN, rfl, k1, k2, k3, k4, k5⟩⟩
    · exact ⟨_, rfl, hb, .inl ⟨List.eq_nil_of_length_eq_zero h0, a, rfl⟩⟩
    · refine ⟨_, rfl, hb, .inr ⟨bN, 0, cap, cap * 2, _, 24, 0, 0, rfl, k1, Nat.le_refl _, k4, k5, ?_, .inl rfl, ?_, k2⟩⟩
      · have := flat_len l; simp; omega
      · intro j x hj
        have hlt : j < (flat l).length := (List.getElem?_eq_some_iff.1 hj).1
        rw [Nat.zero_add, cell_mk k5, List.getElem?_toArray, List.getElem?_append_left hlt]; exact hj
/-- A call behind which all is over: what was made since may be read by it. -/
theorem _root_.Go.Vc.ACalls.tail {P : Program} {f : FuncId} {args : List AVal} {R : AVal → Store → Prop} (h : ACalls P f args [] R) (hc : callable P f = true) (hd : ¬ Dm) {E : Env} {fz g : Nat → Prop} {w W : World} {vals : List Value} (st : St E fz [] w) (hb : Below w.heap.size w W)
    (hg : ∀ b, g b → w.heap.size ≤ b ∧ b < W.heap.size) (hr : RelL E (fun b => fz b ∨ g b) W args vals) :
    Calls P f vals.toArray W fun e w' => ∃ r S' v E' fz', e = .returned v ∧ Ext E fz [] w E' fz' S' w' ∧ St E' fz' S' w' ∧ Rel E' fz' w' r v ∧ R r S' := by
  have stW : St E (fun b => fz b ∨ g b) [] W := ⟨fun l o h => by simp at h, fun l l' b ⟨o, q, _⟩ => by simp at q, fun b hb' => hb'.elim (fun q => Nat.lt_of_lt_of_le (st.fzlt b q) hb.size) fun q => (hg b q).2, st.fresh⟩
  refine ((h.out E _ W vals stW hr).calls hc).mono ?_
  rintro e w' ⟨r, S', v, E', fz', h1, h2, h3, h4, h5⟩
  refine ⟨r, S', v, E', fz', h1, ⟨h2.env, fun b q => h2.frz b (.inl q), fun b q => ?_, fun b q _ => ?_, fun b q => ?_, Nat.le_trans hb.size h2.size, h2.os.trans hb.os, h2.output.trans hb.output, ⟨h2.tape.1.trans hb.tape, fun d => absurd d hd⟩⟩, h3, h4, h5⟩
  · rcases h2.fznew b q with (q | q) | q | q
    · exact .inl q
    · exact .inr (.inr (hg b q).1)
    · exact absurd q no_own
    · exact .inr (.inr (Nat.le_trans hb.size q))
  · rw [h2.keep b (Nat.lt_of_lt_of_le q hb.size) no_own, hb.block b q]
  · rcases h2.own b q with q | q
    · exact absurd q no_own
    · exact .inr (Nat.le_trans hb.size q)
theorem flat_relC {E : Env} {fz : Nat → Prop} {w : World} {b off : Nat} {l : List (Int × Int)} (h : FlAt w b off (flat l)) : RelC E fz w b off (l.flatMap fun s : Int × Int => encT tSpan s) :=
  RelC.mk fun i x hx => by
    have e : ∀ (l : List (Int × Int)) (i : Nat) (x : AVal), (l.flatMap fun s : Int × Int => encT tSpan s)[i]? = some x → ∃ z : Int, x = .int .i64 z ∧ (flat l)[i]? = some (.int .i64 z) := by
      intro l
      induction l with
      | nil => intro i x h; simp at h
      | cons s l ih =>
        intro i x h
        rw [flat_cons]
        rw [List.flatMap_cons] at h
        match i, h with
        | 0, h => exact ⟨s.1, by simpa [encT, encTs] using h.symm, rfl⟩
        | 1, h => exact ⟨s.2, by simpa [encT, encTs] using h.symm, rfl⟩
        | i + 2, h => simpa using ih i x (by simpa [encT, encTs] using h)
    obtain ⟨z, rfl, hz⟩ := e l i x hx
    exact ⟨_, h i _ hz, rfl, by simp only [Rel]⟩
theorem RowB.below {w0 : Nat} {l : List (Int × Int)} {v : Value} {w W : World} (h : RowB w0 l v w) (hb : Below w.heap.size w W) : RowB w0 l v W := by
  rcases h with h | ⟨b, base, c, cap, arr, tt, lo, hi, h1, h2, h3, h4, h5, h6, h7, h8, h9⟩
  · exact .inl h
  · have hlt : b < w.heap.size := (Array.getElem?_eq_some_iff.1 h5).1
    exact .inr ⟨b, base, c, cap, arr, tt, lo, hi, h1, h2, h3, h4, by rw [hb.block b hlt]; exact h5, h6, h7, fun j v hj => by
      rw [World.cell?_of_block (a := ⟨b, base + j, none⟩) (hb.block b hlt)]; exact h8 j v hj, h9⟩
theorem RowB.le {w0 w1 : Nat} {l : List (Int × Int)} {v : Value} {w : World} (h : RowB w1 l v w) (hw : w0 ≤ w1) : RowB w0 l v w := by
  rcases h with h | ⟨b, base, c, cap, arr, tt, lo, hi, h1, h2, h3, h4, h5, h6, h7, h8, h9⟩
  · exact .inl h
  · exact .inr ⟨b, base, c, cap, arr, tt, lo, hi, h1, h2, h3, Nat.le_trans hw h4, h5, h6, h7, h8, h9⟩
theorem RowB.lt {w0 : Nat} {l : List (Int × Int)} {v : Value} {w : World} (h : RowB w0 l v w) {b base n c : Nat} (hv : v = .slice (some ⟨b, base, none⟩) n c) (hn : l ≠ []) : w0 ≤ b ∧ b < w.heap.size := by
  rcases h with h | ⟨b', base', c', cap, arr, tt, lo, hi, h1, h2, h3, h4, h5, h6, h7, h8, h9⟩
  · exact absurd h.1 hn
  · rw [hv] at h1
    simp only [Value.slice.injEq, Option.some.injEq, Addr.mk.injEq] at h1
    obtain ⟨⟨rfl, _, _⟩, _, _⟩ := h1
    exact ⟨h4, (Array.getElem?_eq_some_iff.1 h5).1⟩
/-- What With comes to. -/
def WithPost (l : List (Int × Int)) (s : Int × Int) (E : Env) (fz : Nat → Prop) (w : World) (e : Ending) (w' : World) : Prop :=
  ∃ r S' v E' fz', e = .returned v ∧ Ext E fz [] w E' fz' S' w' ∧ St E' fz' S' w' ∧ Rel E' fz' w' r v ∧ resR spans_Joined_ct.res (withSp l s) r S'
def InsPost (l : List (Int × Int)) (i : Nat) (s : Int × Int) (w0 : Nat) (w : World) (e : Ending) (w' : World) : Prop :=
  ∃ bI base c, e = .returned (.slice (some ⟨bI, base, none⟩) (l.length + 1) c) ∧ l.length + 1 ≤ c ∧ w0 ≤ bI ∧ bI < w'.heap.size ∧ FlAt w' bI base (flat (spInsert l i s)) ∧ Below w0 w w'
theorem asc_idx {l : List (Int × Int)} (hl : spansPre l) : ∀ i j : Nat, i ≤ j → ∀ s t, l[i]? = some s → l[j]? = some t → s.1 ≤ t.1 := fun i j hij s t hs ht => by
  have pw : ∀ {l : List Span} {a : Int}, sepFrom a l → l.Pairwise fun a b => a.1 ≤ b.1 := by
    intro l
    induction l with
    | nil => intro a _; exact .nil
    | cons s l ih =>
      intro a h
      refine .cons (fun b hb => ?_) (ih h.2.2.2)
      have := sep_mem h.2.2.2 b hb
      have := h.2.1
      omega
  obtain ⟨h1, e1⟩ := List.getElem?_eq_some_iff.1 hs
  obtain ⟨h2, e2⟩ := List.getElem?_eq_some_iff.1 ht
  rcases Nat.lt_or_ge i j with h | h
  · have := List.pairwise_iff_getElem.1 (pw hl.2) i j h1 h2 h
    rw [e1, e2] at this; exact this
  · obtain rfl : i = j := by omega
    rw [hs] at ht; cases ht; exact Int.le_refl _
set_option maxHeartbeats 8000000 in
set_option maxRecDepth 100000 in
theorem with_walk (hd : ¬ Dm) (hJ : Con Try.prog 24 spans_Joined_ct) (l : List (Int × Int)) (s : Int × Int) (hl : spansPre l) (hs : spanPre s) (v : Value) {E : Env} {fz : Nat → Prop} (w : World) (st : St E fz [] w) (hv : SpIn l v w) :
    Calls Try.prog 12 #[v, .agg #[.int .i64 s.1, .int .i64 s.2]] w (WithPost l s E fz w) := by
  have hm : ∀ x ∈ l, spanPre x := fun x hx => by
    have := sep_mem hl.2 x hx
    exact ⟨by omega, by omega, this.2.2⟩
  have hlen : l.length ≤ 100000 := hl.1
  have hasc : ∀ i j : Nat, i ≤ j → ∀ s t, l[i]? = some s → l[j]? = some t → s.1 ≤ t.1 := asc_idx hl
  have hbs : ∀ W, Below w.heap.size w W → Calls Try.prog 22 #[v, .int .i64 s.1, .func (.func 23) #[] #[]] W fun e w' => ∃ (i : Nat) (f : Bool), e = .returned (.tuple #[.int .i64 i, .bool f]) ∧ PlIn l s.1 i ∧ Below W.heap.size W w' := fun W hb =>
    bs_any l s.1 ⟨by have := hs.1; omega, by have := hs.2; omega⟩ (fun x hx => ⟨by have := (hm x hx).1; omega, by have := (hm x hx).2; omega⟩) (by omega) hasc v W (hv.below hb)
  have hins : ∀ (i : Nat) u W vb, i ≤ l.length → RowB w.heap.size l u W → W.heap[vb]? = some (.cells #[.int .i64 s.1, .int .i64 s.2] 24 (0, 0)) → w.heap.size ≤ vb → (l ≠ [] → ∀ b base n c, u = .slice (some ⟨b, base, none⟩) n c → vb ≠ b) →
      Calls Try.prog 25 #[u, .int .i64 i, .slice (some ⟨vb, 0, none⟩) 1 1] W (InsPost l i s w.heap.size W) := fun i u W vb hi h1 h2 h3 h4 => insert_row l i s hi hlen u w.heap.size W h1 vb h2 h3 h4
  have htl : ∀ (i : Nat) W bI base c, PlIn l s.1 i → Below w.heap.size w W → l.length + 1 ≤ c → w.heap.size ≤ bI → bI < W.heap.size → FlAt W bI base (flat (spInsert l i s)) → Calls Try.prog 24 #[.slice (some ⟨bI, base, none⟩) (l.length + 1) c] W (WithPost l s E fz w) := fun i W bI base c h0 h1 h2 h3 h4 h5 => by
    have hin : (spInsert l i s).length = l.length + 1 := by
      have := h0.1
      unfold spInsert; simp only [List.length_append, List.length_take, List.length_singleton, List.length_drop]; omega
    have hok : ascOk (spInsert l i s) := ins_asc hl hs (by omega) (by have := h0.1; omega)
      (fun j a b => h0.2.1 j.toNat _ (by omega) (gt_get? a (by have := h0.1; omega)))
      (fun j a b => h0.2.2 j.toNat _ (by omega) (gt_get? (by omega) b))
    have hr := (hJ.2 (spInsert l i s) hok).tail hJ.1 hd (g := fun b => b = bI) (vals := [.slice (some ⟨bI, base, none⟩) (l.length + 1) c]) st h1 (fun b hb => by subst hb; exact ⟨h3, h4⟩)
      ⟨_, _, rfl, .inr ⟨bI, base, c, .inr rfl, Nat.le_trans (Nat.le_of_eq hin) h2, congrArg (fun n => Value.slice (some ⟨bI, base, none⟩) n c) hin.symm, flat_relC h5⟩, rfl⟩
    have e : spans_Joined_ct.fn (spInsert l i s) = withSp l s := ins_joined
    rw [e] at hr
    exact hr
  have hvw := Lib.hid hv
  have hww : w.heap.size < (w.alloc (.cells #[.int .i64 s.1, .int .i64 s.2] 24)).heap.size := by show w.heap.size < (w.heap.push _).size; rw [Array.size_push]; omega
  have bw0 : Below w.heap.size w (w.alloc (.cells #[.int .i64 s.1, .int .i64 s.2] 24)) := (Below.refl _ w).alloc (Nat.le_refl _) _
  clear hv hm hasc
  go_enter Try.func12, Try.ntmps12
  go_wp2_with (go_at_call 22; refine (hbs _ bw0).mono ?_; rintro e W1 ⟨i, f, rfl, hi, hb1⟩)
  have bW1 : Below w.heap.size w W1 := bw0.trans (hb1.mono (Nat.le_of_lt hww))
  have gW1 : W1.heap[w.heap.size]? = some (.cells #[.int .i64 s.1, .int .i64 s.2] 24 (0, 0)) := by
    rw [hb1.block _ hww]; show (w.heap.push _)[w.heap.size]? = _; exact Array.getElem?_push_size
  have hc0 : W1.cell? ⟨w.heap.size, 0, none⟩ = some (.int .i64 s.1) := by rw [cell_mk gW1]; rfl
  have hc1 : W1.cell? ⟨w.heap.size, 1, none⟩ = some (.int .i64 s.2) := by rw [cell_mk gW1]; rfl
  have sW1 : w.heap.size < W1.heap.size := Nat.lt_of_lt_of_le hww hb1.size
  have hcl : ∀ W, Below W1.heap.size W1 W → Calls Try.prog 26 #[v] W fun e w' => ∃ u, e = .returned u ∧ Below W.heap.size W w' ∧ RowB W.heap.size l u w' ∧ w'.cell? ⟨w.heap.size, 0, none⟩ = some (.int .i64 s.1) ∧ w'.cell? ⟨w.heap.size, 1, none⟩ = some (.int .i64 s.2) := fun W hb => by
    refine (clone_any l hlen v W (hvw.out.below (bW1.trans (hb.mono (Nat.le_of_lt sW1))))).mono ?_
    rintro e w' ⟨u, rfl, k1, k2⟩
    have kk := (hb.trans (k1.mono hb.size)).block _ sW1
    exact ⟨u, rfl, k1, k2, by rw [World.cell?_of_block (a := ⟨w.heap.size, 0, none⟩) kk]; exact hc0, by rw [World.cell?_of_block (a := ⟨w.heap.size, 1, none⟩) kk]; exact hc1⟩
  clear gW1
  have sWa : W1.heap.size < (W1.alloc (.cells #[.int .i64 s.1, .int .i64 s.2] 24)).drew.heap.size := by show W1.heap.size < (W1.heap.push _).size; rw [Array.size_push]; omega
  go_region_with (first
    | (go_at_call 26; refine (hcl _ ?_).mono ?_; (first | exact below_drew _ W1 | exact ((Below.refl _ W1).alloc (Nat.le_refl _) _).trans (below_drew _ _)); rintro e W2 ⟨u, rfl, hb2, hr2, q0, q1⟩)
    | (go_at_call 25; refine (hins i u _ _ hi.1 ?_ ?_ ?_ ?_).mono ?_
       (first | exact (hr2.below ((Below.refl _ W2).alloc (Nat.le_refl _) _)).le (Nat.le_of_lt sW1) | exact hr2.le (Nat.le_of_lt (Nat.lt_trans sW1 sWa)))
       (first | exact Array.getElem?_push_size | exact (hb2.block _ sWa).trans Array.getElem?_push_size)
       (first | exact Nat.le_of_lt sW1 | exact Nat.le_trans (Nat.le_of_lt sW1) hb2.size)
       (first | exact fun hn b base n c hu => Nat.ne_of_gt (hr2.lt hu hn).2 | exact fun hn b base n c hu => Nat.ne_of_lt (Nat.lt_of_lt_of_le sWa (hr2.lt hu hn).1))
       rintro e W3 ⟨bI, base, c, rfl, k1, k2, k3, k4, k5⟩)
    | (go_at_call 24; refine (htl i _ bI base c hi ?_ k1 k2 k3 k4).mono ?_
       (first | exact (((bW1.trans (below_drew _ W1)).trans (hb2.mono (Nat.le_of_lt sW1))).trans ((Below.refl _ W2).alloc (Nat.le_trans (Nat.le_of_lt sW1) hb2.size) _)).trans k5 | exact ((bW1.trans (((Below.refl _ W1).alloc (Nat.le_of_lt sW1) _).trans (below_drew _ _))).trans (hb2.mono (Nat.le_of_lt (Nat.lt_trans sW1 sWa)))).trans k5)
       rintro e W4 ⟨r, S', vv, E', fz', rfl, k6⟩))
  all_goals
    go_wp2
    go_ret
    exact ⟨r, S', vv, E', fz', rfl, k6⟩
theorem with_con (hd : ¬ Dm) (hJ : Con Try.prog 24 spans_Joined_ct) : Con Try.prog 12 spans_With_ct := by
  have hc : callable Try.prog 12 = true := by kernel_rfl
  refine ⟨hc, fun (x : List (Int × Int) × (Int × Int)) hx => ⟨fun E fz w vals st hrel => .inl ⟨hc, ?_⟩⟩⟩
  obtain ⟨v1, _, rfl, h1, v2, _, rfl, ⟨vs, rfl, ⟨_, _, rfl, rfl, _, _, rfl, rfl, rfl⟩, _⟩, rfl⟩ : ∃ v1 us, vals = v1 :: us ∧ Rel E fz w (encA (.sl tSpan) x.1) v1 ∧ ∃ v2 us', us = v2 :: us' ∧ (∃ vs : List Value, v2 = .agg vs.toArray ∧ (∃ a1 us1, vs = a1 :: us1 ∧ a1 = .int .i64 x.2.1 ∧ ∃ a2 us2, us1 = a2 :: us2 ∧ a2 = .int .i64 x.2.2 ∧ us2 = []) ∧ ∀ c ∈ vs, c.oneCell' = true) ∧ us' = [] := hrel
  have h1 : (x.1.length = 0 ∧ ∃ a c, v1 = .slice a 0 c) ∨ ∃ b off c, fz b ∧ x.1.length ≤ c ∧ v1 = .slice (some ⟨b, off, none⟩) x.1.length c ∧ RelC E fz w b off (x.1.flatMap fun s : Int × Int => encT tSpan s) := h1
  have hv : SpIn x.1 v1 w := by
    rcases h1 with ⟨h0, a, c, rfl⟩ | ⟨b, off, c, k1, k2, rfl, k3⟩
    · exact .inl ⟨List.eq_nil_of_length_eq_zero h0, a, c, rfl⟩
    · obtain ⟨vs, r1, r2, r3⟩ := k3.read
      have hfl := rel_flat x.1 vs r1
      subst hfl
      exact .inr ⟨b, off, c, rfl, k2, st.fzlt b k1, r3⟩
  exact with_walk hd hJ x.1 x.2 hx.1 hx.2 v1 w st hv
end Go.Proofs
