/-
  Memory: cells read, cells written, a new block; each as a step of the owned store.
-/
import Derived.Test.YtkemhbclkglmbaaVxD
set_option linter.unusedVariables false
set_option linter.unusedSimpArgs false
namespace Go.Vc

theorem add_mk (b o n : Nat) : (⟨b, o, none⟩ : Addr).add n = ⟨b, o + n, none⟩ := Addr.add_lit b o n

theorem cell_mk {w : World} {b o : Nat} {arr : Array Value} {T : TypeId} {fr : Nat × Nat} (h : w.heap[b]? = some (.cells arr T fr)) : w.cell? ⟨b, o, none⟩ = arr[o]? := by
  simp [World.cell?, h]
theorem frozen_mk {w : World} {b o : Nat} {arr : Array Value} {T : TypeId} {lo hi : Nat} (h : w.heap[b]? = some (.cells arr T (lo, hi))) :
    w.frozen? ⟨b, o, none⟩ = (lo ≤ o && o < hi) := by
  simp [World.frozen?, h]

/-- The world with a block's cells put anew. -/
theorem heap_setCell_at {w : World} {b o : Nat} {v : Value} {arr : Array Value} {T : TypeId} {fr : Nat × Nat} (h : w.heap[b]? = some (.cells arr T fr)) :
    (w.setCell ⟨b, o, none⟩ v).heap[b]? = some (.cells (arr.setIfInBounds o v) T fr) := by
  simp [World.setCell, Array.getElem?_modify, h]
theorem heap_setCell_ne {w : World} {b o b' : Nat} {v : Value} (h : b' ≠ b) : (w.setCell ⟨b, o, none⟩ v).heap[b']? = w.heap[b']? := by
  simp [World.setCell, Array.getElem?_modify, Ne.symm h]

theorem run_storeCells {P : Program} {b st : Nat} {T : TypeId} {lo hi : Nat} : ∀ (vs : List Value) (i : Nat) (w : World) (arr : Array Value),
    w.heap[b]? = some (.cells arr T (lo, hi)) → st + i + vs.length ≤ arr.size → (∀ j, j < vs.length → ¬ (lo ≤ st + i + j ∧ st + i + j < hi)) → (∀ c ∈ vs, c.oneCell' = true) →
    ∃ w' arr', (storeCells ⟨b, st, none⟩ vs i).run P w = .ok () w' ∧ w'.heap[b]? = some (.cells arr' T (lo, hi)) ∧ arr'.size = arr.size ∧
      (∀ j, arr'[j]? = if st + i ≤ j ∧ j < st + i + vs.length then vs[j - (st + i)]? else arr[j]?) ∧ (∀ b' : Nat, b' ≠ b → w'.heap[b']? = w.heap[b']?) ∧
      w'.heap.size = w.heap.size ∧ w'.os = w.os ∧ w'.output = w.output ∧ Tp w w'
  | [], i, w, arr, h, _, _, _ => by
    refine ⟨w, arr, by simp [storeCells], h, rfl, fun j => ?_, fun _ _ => rfl, rfl, rfl, rfl, Tp.refl⟩
    rw [if_neg (by simp only [List.length_nil]; omega)]
  | v :: vs, i, w, arr, h, hl, hf, h1 => by
    have hv := h1 v (by simp)
    have hf0 := hf 0 (by simp)
    simp only [List.length_cons] at hl
    have hc : w.cell? ⟨b, st + i, none⟩ = some (arr[st + i]'(by omega)) := by rw [cell_mk h, Array.getElem?_eq_getElem]
    have hfr : w.frozen? ⟨b, st + i, none⟩ = false := by
      rw [frozen_mk h]
      have := hf0
      simp only [Nat.add_zero] at this
      by_cases g : lo ≤ st + i
      · have g2 : ¬ st + i < hi := fun g2 => this ⟨g, g2⟩
        simp [g2]
      · simp [g]
    obtain ⟨w', arr', g1, g2, g3, g4, g5, g6, g7, g8, g9⟩ := run_storeCells (P := P) (b := b) (st := st) vs (i + 1) (w.setCell ⟨b, st + i, none⟩ v) (arr.setIfInBounds (st + i) v)
      (heap_setCell_at h) (by simp; omega) (fun j hj => by have := hf (j + 1) (by simp; omega); rwa [show st + i + (j + 1) = st + (i + 1) + j by omega] at this) (fun c hc => h1 c (by simp [hc]))
    refine ⟨w', arr', ?_, g2, by simpa using g3, fun j => ?_, fun b' hb' => by rw [g5 b' hb', heap_setCell_ne hb'], by simpa using g6, g7, g8, g9⟩
    · simp only [storeCells, Sem.run_bind, add_mk, run_store P w _ v _ hv, hc, hfr, Bool.false_eq_true, if_false, Result.andThen_ok]
      exact g1
    · rw [g4]
      simp only [List.length_cons, Array.getElem?_setIfInBounds]
      by_cases e : j = st + i
      · subst e
        rw [if_neg (by omega), if_pos rfl, if_pos (by omega), if_pos (by omega)]
        simp
      · by_cases e2 : st + i ≤ j ∧ j < st + i + (vs.length + 1)
        · rw [if_pos (by omega), if_pos e2, show j - (st + i) = (j - (st + (i + 1))) + 1 by omega]
          simp
        · rw [if_neg (by omega), if_neg (fun h => e h.symm), if_neg e2]

section
variable {P : Program} {E : Env} {fz : Nat → Prop} {S : Store} {w : World}

/-- Cells that are read at a place come out as a list of values. -/
theorem run_load_cells {b off : Nat} {cs : List AVal} (h : RelC E fz w b off cs) : ∃ vs : List Value, RelL E fz w cs vs ∧ (∀ c ∈ vs, c.oneCell' = true) ∧
    (loadCells ⟨b, off, none⟩ cs.length).run P w = .ok vs.toArray w ∧ (∀ (j : Nat) v, vs[j]? = some v → w.cell? ⟨b, off + j, none⟩ = some v) := by
  obtain ⟨vs, h1, h2, h3⟩ := h.read
  refine ⟨vs, h1, h2, ?_, h3⟩
  have := run_loadCells_list (P := P) w ⟨b, off, none⟩ vs (fun j v hv => by rw [add_mk]; exact h3 j v hv)
  rwa [h1.length] at this

/-- A new block with these cells (and perhaps more behind them). -/
theorem new_rowM (lo hi : Nat) (st : St E fz S w) {cs : List AVal} {vs rest : List Value} {T : TypeId} (k : Nat) (hr : RelL E fz w cs vs) (h1 : ∀ c ∈ vs, c.oneCell' = true)
    {w' : World} (hm : lo = hi ∨ (vs ++ rest).length ≤ lo) (hw : w'.heap = w.heap.push (.cells (vs ++ rest).toArray T (lo, hi))) (g1 : w'.os = w.os) (g2 : w'.output = w.output) (g3 : Tp w w') :
    ∃ ver E', E' ver = some (.real w.heap.size 0 (vs ++ rest).length k) ∧ St E' fz (S ++ [.row ver k cs]) w' ∧ Ext E fz S w E' fz (S ++ [.row ver k cs]) w' := by
  obtain ⟨n, hn⟩ := st.fresh
  have hE : ∀ v x, E v = some x → (fun v => if v = n then some (Bk.real w.heap.size 0 (vs ++ rest).length k) else E v) v = some x := fun v x hx => by
    have : v ≠ n := fun e => by subst e; rw [hn v (Nat.le_refl _)] at hx; cases hx
    simp [this, hx]
  have hlt : ∀ b : Nat, b < w.heap.size → w'.heap[b]? = w.heap[b]? := fun b hb => by
    rw [hw, Array.getElem?_push, if_neg (by omega)]
  have hnew : w'.heap[w.heap.size]? = some (.cells (vs ++ rest).toArray T (lo, hi)) := by rw [hw]; simp
  refine ⟨n, fun v => if v = n then some (.real w.heap.size 0 (vs ++ rest).length k) else E v, by simp,
    st.upd S.length (.row n k cs) hE ⟨n + 1, fun v hv => by simp [hn v (by omega), show v ≠ n by omega]⟩ (fun l' hl' => ?_) (by simp) (by rw [hw]; simp) (fun b hb _ => hlt b hb) (fun b hb => .inr ?_) ?_ g1 g2 g3⟩
  · rw [List.getElem?_append]
    split
    · rfl
    · rename_i hh
      rw [List.getElem?_eq_none (by simp; omega), List.getElem?_eq_none (by omega)]
  · simp [obBlock] at hb; omega
  · refine .inr ⟨w.heap.size, 0, (vs ++ rest).length, (vs ++ rest).toArray, T, lo, hi, by simp, hnew, by simp, ?_, by simpa using hm, ?_, fun hf => ?_⟩
    · have := hr.length; simp; omega
    · refine RelC.mk fun i x hx => ?_
      obtain ⟨v, hv, hrel⟩ := hr.get hx
      have hil : i < vs.length := by
        rcases Nat.lt_or_ge i vs.length with h | h
        · exact h
        · simp [List.getElem?_eq_none h] at hv
      refine ⟨v, ?_, h1 v (List.mem_of_getElem? hv), hrel.mono hE (fun _ h => h) (fun b hb => hlt b (st.fzlt b hb))⟩
      rw [cell_mk hnew]
      simp [List.getElem?_append_left hil, hv]
    · have := st.fzlt _ hf; omega

/-- .. with no mark. -/
theorem new_row (st : St E fz S w) {cs : List AVal} {vs rest : List Value} {T : TypeId} (k : Nat) (hr : RelL E fz w cs vs) (h1 : ∀ c ∈ vs, c.oneCell' = true)
    {w' : World} (hw : w'.heap = w.heap.push (.cells (vs ++ rest).toArray T (0, 0))) (g1 : w'.os = w.os) (g2 : w'.output = w.output) (g3 : Tp w w') :
    ∃ ver E', E' ver = some (.real w.heap.size 0 (vs ++ rest).length k) ∧ St E' fz (S ++ [.row ver k cs]) w' ∧ Ext E fz S w E' fz (S ++ [.row ver k cs]) w' :=
  new_rowM 0 0 st k hr h1 (.inl rfl) hw g1 g2 g3

/-- A slice that is nil, as an owned row of no cells. -/
theorem new_nil (st : St E fz S w) (k : Nat) : ∃ ver E', E' ver = some .nil ∧ St E' fz (S ++ [.row ver k []]) w ∧ Ext E fz S w E' fz (S ++ [.row ver k []]) w := by
  obtain ⟨n, hn⟩ := st.fresh
  have hE : ∀ v x, E v = some x → (fun v => if v = n then some Bk.nil else E v) v = some x := fun v x hx => by
    have : v ≠ n := fun e => by subst e; rw [hn v (Nat.le_refl _)] at hx; cases hx
    simp [this, hx]
  refine ⟨n, fun v => if v = n then some .nil else E v, by simp,
    st.upd S.length (.row n k []) hE ⟨n + 1, fun v hv => by simp [hn v (by omega), show v ≠ n by omega]⟩ (fun l' hl' => ?_) (by simp) (Nat.le_refl _) (fun _ _ _ => rfl) (fun b hb => ?_) ?_ rfl rfl Tp.refl⟩
  · rw [List.getElem?_append]
    split
    · rfl
    · rename_i hh
      rw [List.getElem?_eq_none (by simp; omega), List.getElem?_eq_none (by omega)]
  · simp [obBlock] at hb
  · exact .inl ⟨by simp, rfl⟩

theorem over_get : ∀ (cs ys : List AVal) (i : Nat), ys.length ≤ cs.length → (over cs ys)[i]? = if i < ys.length then ys[i]? else cs[i]?
  | [], [], i, _ => by simp [over]
  | [], y :: ys, i, h => by simp at h
  | c :: cs, [], i, _ => by simp [over]
  | c :: cs, y :: ys, i, h => by
    cases i with
    | zero => simp [over]
    | succ i =>
      have := over_get cs ys i (by simpa using h)
      simp only [over, List.getElem?_cons_succ, List.length_cons, this]
      simp
theorem over_length : ∀ (cs ys : List AVal), (over cs ys).length = cs.length
  | [], ys => by simp [over]
  | c :: cs, [] => by simp [over]
  | c :: cs, y :: ys => by simp [over, over_length cs ys]
theorem setCells_get : ∀ (cs : List AVal) (n : Nat) (ys : List AVal) (i : Nat), n + ys.length ≤ cs.length → (setCells cs n ys)[i]? = if n ≤ i ∧ i < n + ys.length then ys[i - n]? else cs[i]?
  | cs, 0, ys, i, h => by
    have e : setCells cs 0 ys = over cs ys := by cases cs <;> rfl
    rw [e, over_get cs ys i (by omega)]
    simp
  | [], n + 1, ys, i, h => by simp at h
  | c :: cs, n + 1, ys, i, h => by
    cases i with
    | zero => simp [setCells]
    | succ i =>
      have := setCells_get cs n ys i (by simp at h; omega)
      simp only [setCells, List.getElem?_cons_succ, this]
      rw [show i + 1 - (n + 1) = i - n by omega]
      by_cases hh : n ≤ i ∧ i < n + ys.length
      · rw [if_pos hh, if_pos (by omega)]
      · rw [if_neg hh, if_neg (by omega)]
theorem setCells_length : ∀ (cs : List AVal) (n : Nat) (ys : List AVal), (setCells cs n ys).length = cs.length
  | cs, 0, ys => by
    have e : setCells cs 0 ys = over cs ys := by cases cs <;> rfl
    rw [e, over_length]
  | [], n + 1, ys => by simp [setCells]
  | c :: cs, n + 1, ys => by simp [setCells, setCells_length cs n ys]

/-- Cells of an owned row are written. -/
theorem put_cells (st : St E fz S w) {l ver k off : Nat} {cs ys : List AVal} {us : List Value} (hl : S[l]? = some (.row ver k cs)) (hfit : off + ys.length ≤ cs.length) (hne : ys ≠ [])
    (hr : RelL E fz w ys us) (h1 : ∀ c ∈ us, c.oneCell' = true) {b base cap kk : Nat} (hE : E ver = some (.real b base cap kk)) :
    ∃ w', (storeCells ⟨b, base + off, none⟩ us 0).run P w = .ok () w' ∧ St E fz (S.set l (.row ver k (setCells cs off ys))) w' ∧ Ext E fz S w E fz (S.set l (.row ver k (setCells cs off ys))) w' := by
  have hlt : l < S.length := by
    rcases Nat.lt_or_ge l S.length with h | h
    · exact h
    · simp [List.getElem?_eq_none h] at hl
  have hlen := hr.length
  have hpos : 0 < ys.length := List.length_pos_iff.2 hne
  rcases st.ok l _ hl with ⟨g1, g2⟩ | ⟨b', base', cap', arr, T, lo, hi, g1, g2, g3, g4, g5, g6, g7⟩
  · subst g2; simp only [List.length_nil] at hfit; omega
  · rw [hE] at g1; cases g1
    obtain ⟨w', arr', q1, q2, q3, q4, q5, q6, q7, q8, q9⟩ := run_storeCells (P := P) (b := b) (st := base + off) us 0 w arr g2 (by omega)
      (fun j hj h => by rcases g5 with g5 | g5 <;> omega) h1
    refine ⟨w', q1, st.upd l (.row ver k (setCells cs off ys)) (fun _ _ h => h) st.fresh (fun l' hl' => by rw [List.getElem?_set_ne (Ne.symm hl')]) (by rw [List.getElem?_set_self hlt]) (by omega) (fun bb _ hno => q5 bb fun e => hno ?_) (fun bb hb => .inl ?_) ?_ q7 q8 q9⟩
    · subst e; exact ⟨_, hl, by simp [obBlock, hE]⟩
    · simp [obBlock, hE] at hb; subst hb; exact ⟨_, hl, by simp [obBlock, hE]⟩
    · refine .inr ⟨b, base, cap, arr', T, lo, hi, hE, q2, by omega, by rw [setCells_length]; omega, by rw [q3]; exact g5, ?_, g7⟩
      have hk : ∀ bb, fz bb → w'.heap[bb]? = w.heap[bb]? := fun bb hb => q5 bb fun e => g7 (e ▸ hb)
      refine RelC.mk fun i x hx => ?_
      rw [setCells_get cs off ys i hfit] at hx
      rw [cell_mk q2, q4]
      split at hx
      · rename_i hh
        obtain ⟨v, hv, hrel⟩ := hr.get hx
        rw [if_pos (by omega), show base + i - (base + off + 0) = i - off by omega]
        exact ⟨v, hv, h1 v (List.mem_of_getElem? hv), hrel.mono (fun _ _ h => h) (fun _ h => h) hk⟩
      · rename_i hh
        rw [if_neg (by omega)]
        obtain ⟨c, hc, hone, hrel⟩ := g6.get hx
        rw [cell_mk g2] at hc
        exact ⟨c, hc, hone, hrel.mono (fun _ _ h => h) (fun _ h => h) hk⟩
end
end Go.Vc
