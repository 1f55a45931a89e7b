/- One span put into a row of spans that is one's own: whatever its room. Conditions: none. -/
import Derived.Test.YtogjhebilbbdjaaInsD
set_option linter.unusedVariables false
set_option linter.unusedSimpArgs false
namespace Go.Proofs
open Go.RowKit Go.Shelf Go.Vc Go.Fu
theorem rel_flat {E : Env} {fz : Nat → Prop} {w : World} : ∀ (l : List (Int × Int)) (vs : List Value), RelL E fz w (l.flatMap fun s : Int × Int => encT tSpan s) vs → vs = flat l
  | [], vs, h => h
  | s :: l, vs, h => by
    obtain ⟨_, _, rfl, rfl, _, us, rfl, rfl, h3⟩ : ∃ v us, vs = v :: us ∧ v = .int .i64 s.1 ∧ ∃ v2 us2, us = v2 :: us2 ∧ v2 = .int .i64 s.2 ∧ RelL E fz w (l.flatMap fun s : Int × Int => encT tSpan s) us2 := h
    rw [rel_flat l us h3, flat_cons]; rfl
theorem new_flat {w w' : World} {F : List Value} {row : List Value} {rest : List Value} (h : w'.heap = w.heap.push (.cells (row ++ rest).toArray 24 (0, 0))) (e : row = F) : FlAt w' w.heap.size 0 F := fun j v hj => by
  have hg : w'.heap[w.heap.size]? = some (.cells (row ++ rest).toArray 24 (0, 0)) := by rw [h]; exact Array.getElem?_push_size
  subst e
  have hlt : j < row.length := (List.getElem?_eq_some_iff.1 hj).1
  rw [Nat.zero_add, cell_mk hg, List.getElem?_toArray, List.getElem?_append_left hlt]
  exact hj
theorem new_below {B : Nat} {w w' : World} {o : Obj} (hB : B ≤ w.heap.size) (h : w'.heap = w.heap.push o) (h1 : w'.os = w.os) (h2 : w'.output = w.output) (h3 : w'.tape = w.tape) : Below B w w' :=
  ⟨h1, h3, h2, by rw [h]; simp, fun k hk => by rw [h, Array.getElem?_push_lt (by omega)]; simp [show k < w.heap.size by omega]⟩
theorem below_drew (B : Nat) (w : World) : Below B w w.drew := ⟨rfl, rfl, rfl, Nat.le_refl _, fun _ _ => rfl⟩
/-- A row of spans of one's own. -/
def RowB (w0 : Nat) (l : List (Int × Int)) (v : Value) (w : World) : Prop :=
  (l = [] ∧ ∃ a, v = .slice a 0 0) ∨ ∃ b base c cap arr tt lo hi, v = .slice (some ⟨b, base, none⟩) l.length c ∧ l.length ≤ c ∧ c * 2 ≤ cap ∧ w0 ≤ b ∧ w.heap[b]? = some (.cells arr tt (lo, hi)) ∧ base + cap ≤ arr.size ∧
    (lo = hi ∨ arr.size ≤ lo) ∧ FlAt w b base (flat l) ∧ c ≤ 9223372036854775807
theorem insert_row (l : List (Int × Int)) (i : Nat) (s : Int × Int) (hi : i ≤ l.length) (hs : l.length ≤ 100000) (v : Value) (w0 : Nat) (w : World) (h : RowB w0 l v w) (vb : Nat)
    (hv : w.heap[vb]? = some (.cells #[.int .i64 s.1, .int .i64 s.2] 24 (0, 0))) (hw0 : w0 ≤ vb) (hne : l ≠ [] → ∀ b base n c, v = .slice (some ⟨b, base, none⟩) n c → vb ≠ b) :
    Calls Try.prog 25 #[v, .int .i64 i, .slice (some ⟨vb, 0, none⟩) 1 1] w fun e w' => ∃ bI base c, e = .returned (.slice (some ⟨bI, base, none⟩) (l.length + 1) c) ∧ l.length + 1 ≤ c ∧ w0 ≤ bI ∧ bI < w'.heap.size ∧ FlAt w' bI base (flat (spInsert l i s)) ∧ Below w0 w w' := by
  have vlt : vb < w.heap.size := (Array.getElem?_eq_some_iff.1 hv).1
  have hvs : ∀ j u, [Value.int .i64 s.1, Value.int .i64 s.2][j]? = some u → w.cell? ⟨vb, 0 + j, none⟩ = some u := fun j u hj => by
    rw [Nat.zero_add, cell_mk hv]; simpa using hj
  have h1v : ∀ u ∈ [Value.int .i64 s.1, Value.int .i64 s.2], u.oneCell' = true := fun u hu => by
    simp at hu; rcases hu with rfl | rfl <;> rfl
  have fl := flat_len l
  rcases h with ⟨rfl, a, rfl⟩ | ⟨b, base, c, cap, arr, tt, lo, hi2, rfl, g1, g2, g3, g4, g5, g6, r3, hc63⟩
  · have hi0 : i ≤ 0 := hi
    obtain rfl : i = 0 := by omega
    refine (ins_end_grow a 0 0 vb 0 1 [] [.int .i64 s.1, .int .i64 s.2] w (by omega) (by omega) (by omega) rfl rfl (fun _ => rfl) (fun a _ j v hj => by simp at hj) hvs h1v).mono ?_
    rintro e w' ⟨cap, rest, rfl, k1, k2, k3, k4, k5, k6⟩
    exact ⟨w.heap.size, 0, cap, rfl, k1, by omega, by rw [k3]; simp, new_flat k3 rfl, new_below (by omega) k3 k4 k5 k6⟩
  · have r2 := flat_one l
    have hne' : i < l.length → vb ≠ b := fun q => hne (fun e => by rw [e] at q; simp at q) b base l.length c rfl
    have hfz : ∀ j, j < cap → w.frozen? ⟨b, base + j, none⟩ = false := fun j hj => by
      rw [frozen_mk g4]
      rcases g6 with g6 | g6
      · subst g6
        by_cases q : lo ≤ base + j
        · have : ¬ base + j < lo := by omega
          simp [this]
        · simp [q]
      · have : ¬ lo ≤ base + j := by omega
        simp [this]
    have hsp : ∀ j, j < cap → (w.cell? ⟨b, base + j, none⟩).isSome = true := fun j hj => by
      rw [cell_mk g4]; simp; omega
    have blt : b < w.heap.size := (Array.getElem?_eq_some_iff.1 g4).1
    have hca : c * 2 ≤ cap := g2
    by_cases hin : i = l.length
    · subst hin
      have e0 : (flat l).take (l.length * 2) = flat l := List.take_of_length_le (by omega)
      have e1 : (flat l).drop (l.length * 2) = [] := List.drop_eq_nil_of_le (by omega)
      by_cases hroom : l.length + 1 ≤ c
      · refine (ins_end_room b base l.length c vb 0 1 [.int .i64 s.1, .int .i64 s.2] w hroom hc63 rfl (fun j hj => by rw [Nat.add_assoc]; exact hsp _ (by omega)) (fun j hj => by rw [Nat.add_assoc]; exact hfz _ (by omega)) hvs h1v).mono ?_
        rintro e w' ⟨rfl, rfl⟩
        refine ⟨b, base, c, rfl, hroom, g3, by rw [(setCells_heap _ _ _ _).2.1]; exact blt, ?_, below_set g3 _ _ _⟩
        have := two_sets (W := w) (b := b) (off := base) (k := l.length * 2) (A := flat l) (vs := [.int .i64 s.1, .int .i64 s.2]) (D := []) (by omega) rfl r3 (fun j hj => hsp j (by simp at hj; omega))
        rw [flat_ins, e0, e1]
        exact this
      · refine (ins_end_grow (some ⟨b, base, none⟩) l.length c vb 0 1 (flat l) [.int .i64 s.1, .int .i64 s.2] w (by omega) g1 (by omega) fl rfl (fun q => by cases q) (fun a ha j v hj => by cases ha; rw [Addr.add_lit]; exact r3 j v hj) hvs h1v).mono ?_
        rintro e w' ⟨cap', rest, rfl, k1, k2, k3, k4, k5, k6⟩
        exact ⟨w.heap.size, 0, cap', rfl, k1, by omega, by rw [k3]; simp, new_flat k3 (by rw [flat_ins, e0, e1, List.append_nil]; rfl), new_below (by omega) k3 k4 k5 k6⟩
    · have hlt : i < l.length := by omega
      by_cases hroom : l.length + 1 ≤ c
      · refine (ins_shift b base l.length c i vb 0 1 (flat l) [.int .i64 s.1, .int .i64 s.2] w hlt hroom hc63 (hne' hlt) fl rfl r3 (fun j hj => hsp j (by omega)) (fun j hj => hfz j (by omega)) hvs r2 h1v 24 tt 2 arr.size (by simp [World.shape?, hv]) (by simp [World.shape?, g4]) (by omega) (by rw [frozen_mk hv]; simp) (by rw [frozen_mk hv]; simp)).mono ?_
        rintro e w' ⟨rfl, rfl⟩
        refine ⟨b, base, c, rfl, hroom, g3, by rw [(setCells_heap _ _ _ _).2.1, (setCells_heap _ _ _ _).2.1]; exact blt, ?_, ((below_drew w0 w).trans (below_set g3 _ _ _)).trans (below_set g3 _ _ _)⟩
        have := two_sets (W := w.drew) (b := b) (off := base) (k := i * 2) (A := (flat l).take (i * 2)) (vs := [.int .i64 s.1, .int .i64 s.2]) (D := (flat l).drop (i * 2)) (by rw [List.length_take]; omega) rfl
          (fun j v hj => r3 j v (by rw [List.getElem?_take] at hj; split at hj <;> simp_all)) (fun j hj => hsp j (by rw [List.length_drop] at hj; omega))
        rw [flat_ins]
        rw [show (i + 1) * 2 = i * 2 + 2 by omega]
        exact this
      · refine (ins_grow b base l.length c i vb 0 1 (flat l) [.int .i64 s.1, .int .i64 s.2] w hlt (by omega) g1 (by omega) fl rfl blt vlt r3 hvs r2 h1v).mono ?_
        rintro e w' ⟨cap', row, rfl, k1, k2, rfl, k3⟩
        have hg : (w.drew.alloc (.cells row 24)).heap[w.heap.size]? = some (.cells row 24 (0, 0)) := by
          simp only [World.alloc]; exact Array.getElem?_push_size
        have bl : Below w0 w (w.drew.alloc (.cells row 24)) := (below_drew w0 w).trans ((Below.refl w0 w.drew).alloc (by show w0 ≤ w.heap.size; omega) _)
        have ts := two_sets' (W := w.drew.alloc (.cells row 24)) (b := w.heap.size) (off := 0) (k := i * 2) (A := (flat l).take (i * 2)) (vs := [.int .i64 s.1, .int .i64 s.2]) (D := (flat l).drop (i * 2)) (by rw [List.length_take]; omega) rfl
          (fun j v hj => by
            rw [← k3] at hj
            rw [Nat.zero_add, cell_mk hg]
            rw [List.getElem?_take] at hj
            split at hj
            · simpa using hj
            · cases hj) (fun j hj => by rw [Nat.zero_add, cell_mk hg]; rw [List.length_drop] at hj; simp; omega)
        rw [Nat.zero_add, Nat.zero_add] at ts
        refine ⟨w.heap.size, 0, cap', rfl, k1, by omega, ?_, ?_, ?_⟩
        · rw [(setCells_heap _ _ _ _).2.1]
          show _ < ((w.drew.alloc (.cells row 24)).setCells w.heap.size (i * 2) _).heap.size
          rw [(setCells_heap _ _ _ _).2.1]
          simp [World.alloc]

        · rw [flat_ins, show (i + 1) * 2 = i * 2 + 2 by omega]
          exact ts
        · exact ((bl.trans (below_set (by omega) _ _ _)).trans (below_drew w0 _)).trans (below_set (by omega) _ _ _)
end Go.Proofs
