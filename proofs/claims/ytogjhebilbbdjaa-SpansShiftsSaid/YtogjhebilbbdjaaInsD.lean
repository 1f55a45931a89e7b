/- One span put into a row of spans: the library's Insert, whatever the row's room. Conditions: none. -/
import Derived.Test.YtogjhebilbbdjaaInsC
set_option linter.unusedVariables false
set_option linter.unusedSimpArgs false
namespace Go.Proofs
open Go.RowKit Go.Shelf Go.Vc Go.Fu
def flat (l : List (Int × Int)) : List Value := l.flatMap fun s => [Value.int .i64 s.1, Value.int .i64 s.2]
theorem flat_cons (s : Int × Int) (l : List (Int × Int)) : flat (s :: l) = [Value.int .i64 s.1, Value.int .i64 s.2] ++ flat l := by simp [flat]
theorem flat_app (l m : List (Int × Int)) : flat (l ++ m) = flat l ++ flat m := by simp [flat]
theorem flat_len : ∀ l : List (Int × Int), (flat l).length = l.length * 2
  | [] => rfl
  | s :: l => by rw [flat_cons, List.length_append, flat_len l]; simp; omega
theorem flat_take : ∀ (l : List (Int × Int)) (i : Nat), (flat l).take (i * 2) = flat (l.take i)
  | [], i => by simp [flat]
  | s :: l, 0 => by simp [flat]
  | s :: l, i + 1 => by
    rw [List.take_succ_cons, flat_cons, flat_cons, ← flat_take l i, show (i + 1) * 2 = i * 2 + 1 + 1 by omega]
    simp only [List.cons_append, List.nil_append, List.take_succ_cons]
theorem flat_drop : ∀ (l : List (Int × Int)) (i : Nat), (flat l).drop (i * 2) = flat (l.drop i)
  | [], i => by simp [flat]
  | s :: l, 0 => by simp [flat]
  | s :: l, i + 1 => by
    rw [List.drop_succ_cons, flat_cons, ← flat_drop l i, show (i + 1) * 2 = i * 2 + 1 + 1 by omega]
    simp only [List.cons_append, List.nil_append, List.drop_succ_cons]
theorem flat_one : ∀ l : List (Int × Int), ∀ v ∈ flat l, v.oneCell' = true := fun l v hv => by
  simp only [flat, List.mem_flatMap] at hv
  obtain ⟨s, _, h⟩ := hv
  simp at h
  rcases h with rfl | rfl <;> rfl
theorem flat_ins {l : List (Int × Int)} {i : Nat} {s : Int × Int} : flat (spInsert l i s) = (flat l).take (i * 2) ++ flat [s] ++ (flat l).drop (i * 2) := by
  unfold spInsert
  rw [flat_app, flat_app, flat_take, flat_drop, Int.toNat_natCast]
def FlAt (w : World) (b off : Nat) (F : List Value) : Prop := ∀ (j : Nat) (v : Value), F[j]? = some v → w.cell? ⟨b, off + j, none⟩ = some v
/-- What two copies leave behind. -/
theorem two_sets {W : World} {b off k : Nat} {A vs D : List Value} (hk : A.length = k) (hv : vs.length = 2) (hA : FlAt W b off A) (hsp : ∀ j, j < k + 2 + D.length → (W.cell? ⟨b, off + j, none⟩).isSome = true) :
    FlAt ((W.setCells b (off + (k + 2)) D).setCells b (off + k) vs) b off (A ++ vs ++ D) := fun j v hj => by
  have hsp1 : ∀ j, j < k + 2 + D.length → ((W.setCells b (off + (k + 2)) D).cell? ⟨b, off + j, none⟩).isSome = true := fun j hj =>
    isSome_setCells b _ _ _ (fun q hq => by rw [Nat.add_assoc]; exact hsp _ (by omega)) _ (hsp j hj)
  by_cases c1 : j < k
  · rw [List.append_assoc, List.getElem?_append_left (by omega)] at hj
    rw [World.cell?_setCells_out b _ _ _ _ (fun _ _ => .inl (by show off + j < off + k; omega)), World.cell?_setCells_out b _ _ _ _ (fun _ _ => .inl (by show off + j < off + (k + 2); omega))]
    exact hA j v hj
  · by_cases c2 : j < k + 2
    · rw [List.getElem?_append_left (by simp; omega), List.getElem?_append_right (by omega)] at hj
      have hlt : j - k < vs.length := by omega
      have := World.cell?_setCells_in b vs (off + k) (W.setCells b (off + (k + 2)) D) (fun q hq => by rw [Nat.add_assoc]; exact hsp1 _ (by omega)) (j - k) hlt
      rw [show off + k + (j - k) = off + j by omega] at this
      rw [this]
      rw [hk, List.getElem?_eq_getElem hlt] at hj
      exact hj
    · rw [List.getElem?_append_right (by simp; omega)] at hj
      simp only [List.length_append, hk, hv] at hj
      have hlt : j - (k + 2) < D.length := (List.getElem?_eq_some_iff.1 hj).1
      rw [World.cell?_setCells_out b _ _ _ _ (fun _ _ => .inr (by show off + k + vs.length ≤ off + j; omega))]
      have := World.cell?_setCells_in b D (off + (k + 2)) W (fun q hq => by rw [Nat.add_assoc]; exact hsp _ (by omega)) (j - (k + 2)) hlt
      rw [show off + (k + 2) + (j - (k + 2)) = off + j by omega] at this
      rw [this, ← List.getElem?_eq_getElem hlt]
      exact hj
theorem two_sets' {W : World} {b off k : Nat} {A vs D : List Value} (hk : A.length = k) (hv : vs.length = 2) (hA : FlAt W b off A) (hsp : ∀ j, j < k + 2 + D.length → (W.cell? ⟨b, off + j, none⟩).isSome = true) :
    FlAt (((W.setCells b (off + k) vs).drew).setCells b (off + (k + 2)) D) b off (A ++ vs ++ D) := fun j v hj => by
  have hsp1 : ∀ j, j < k + 2 + D.length → ((W.setCells b (off + k) vs).drew.cell? ⟨b, off + j, none⟩).isSome = true := fun j hj =>
    isSome_setCells b _ _ _ (fun q hq => by rw [Nat.add_assoc]; exact hsp _ (by omega)) _ (hsp j hj)
  by_cases c1 : j < k
  · rw [List.append_assoc, List.getElem?_append_left (by omega)] at hj
    rw [World.cell?_setCells_out b _ _ _ _ (fun _ _ => .inl (by show off + j < off + (k + 2); omega))]
    show (W.setCells b (off + k) vs).cell? _ = _
    rw [World.cell?_setCells_out b _ _ _ _ (fun _ _ => .inl (by show off + j < off + k; omega))]
    exact hA j v hj
  · by_cases c2 : j < k + 2
    · rw [List.getElem?_append_left (by simp; omega), List.getElem?_append_right (by omega)] at hj
      have hlt : j - k < vs.length := by omega
      rw [World.cell?_setCells_out b _ _ _ _ (fun _ _ => .inl (by show off + j < off + (k + 2); omega))]
      show (W.setCells b (off + k) vs).cell? _ = _
      have := World.cell?_setCells_in b vs (off + k) W (fun q hq => by rw [Nat.add_assoc]; exact hsp _ (by omega)) (j - k) hlt
      rw [show off + k + (j - k) = off + j by omega] at this
      rw [this]
      rw [hk, List.getElem?_eq_getElem hlt] at hj
      exact hj
    · rw [List.getElem?_append_right (by simp; omega)] at hj
      simp only [List.length_append, hk, hv] at hj
      have hlt : j - (k + 2) < D.length := (List.getElem?_eq_some_iff.1 hj).1
      have := World.cell?_setCells_in b D (off + (k + 2)) (W.setCells b (off + k) vs).drew (fun q hq => by rw [Nat.add_assoc]; exact hsp1 _ (by omega)) (j - (k + 2)) hlt
      rw [show off + (k + 2) + (j - (k + 2)) = off + j by omega] at this
      rw [this, ← List.getElem?_eq_getElem hlt]
      exact hj
theorem setCells_heap (b : Nat) : ∀ (vs : List Value) (o : Nat) (w : World), (∀ k, k ≠ b → (w.setCells b o vs).heap[k]? = w.heap[k]?) ∧ (w.setCells b o vs).heap.size = w.heap.size ∧ (w.setCells b o vs).os = w.os ∧ (w.setCells b o vs).tape = w.tape ∧ (w.setCells b o vs).output = w.output
  | [], _, _ => ⟨fun _ _ => rfl, rfl, rfl, rfl, rfl⟩
  | v :: r, o, w => by
    obtain ⟨h1, h2, h3, h4, h5⟩ := setCells_heap b r (o + 1) (w.setCell ⟨b, o, none⟩ v)
    rw [World.setCells]
    refine ⟨fun k hk => (h1 k hk).trans (Below.heap_setCell _ _ _ _ (fun e => hk (by simpa using e))), h2.trans (by simp [World.setCell]), h3, h4, h5⟩
theorem below_set {B b : Nat} (hB : B ≤ b) (vs : List Value) (o : Nat) (w : World) : Below B w (w.setCells b o vs) := by
  obtain ⟨h1, h2, h3, h4, h5⟩ := setCells_heap b vs o w
  exact ⟨h3, h4, h5, by rw [h2]; exact Nat.le_refl _, fun k hk => h1 k (by omega)⟩
end Go.Proofs
