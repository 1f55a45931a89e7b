/- strings.Builder's WriteString, with the frame that a walk needs whose builder was laid ahead of other blocks. Conditions: none. -/
import Derived.Test.YtomipmjgcgihiaaLayB
import Derived.Test.YtomipmjgcgihiaaVyR
import Derived.Test.YtomipmjgcgihiaaVpRE
import Derived.Test.YtomipmjgcgihiaaVpK
set_option linter.unusedVariables false
set_option linter.unusedSimpArgs false
namespace Go.Proofs
open Go.RowKit Go.Shelf
/-- A builder in block b that holds bs; its bytes lie at R or above, behind b. -/
def Bld (b R : Nat) (bs : List Value) (w : World) : Prop :=
  b < R ∧ ∃ p v, w.heap[b]? = some (.cells #[p, v] 30 (0, 0)) ∧ (p = .pointer none ∨ p = .pointer (some ⟨b, 0, none⟩)) ∧ w.ownsRow R 5 1 v bs.length bs
/-- All below R lies as it lay, but for block b. -/
structure Kpt (b R : Nat) (w w' : World) : Prop where
  os : w'.os = w.os
  tape : w'.tape = w.tape
  output : w'.output = w.output
  size : w.heap.size ≤ w'.heap.size
  block : ∀ k, k < R → k ≠ b → w'.heap[k]? = w.heap[k]?
theorem Kpt.refl (b R : Nat) (w : World) : Kpt b R w w := ⟨rfl, rfl, rfl, Nat.le_refl _, fun _ _ _ => rfl⟩
theorem Kpt.trans {b R : Nat} {w w1 w2 : World} (h : Kpt b R w w1) (k : Kpt b R w1 w2) : Kpt b R w w2 :=
  ⟨k.os.trans h.os, k.tape.trans h.tape, k.output.trans h.output, Nat.le_trans h.size k.size, fun i hi hb => (k.block i hi hb).trans (h.block i hi hb)⟩
theorem ownsRow_low {b R e n : Nat} {v : Value} {bs : List Value} {w : World} (hb : b < R) (h : w.ownsRow R e 1 v n bs) : w.ownsRow b e 1 v n bs ∧ v.ownBlock ≠ some b := by
  refine ⟨⟨h.1, h.2.imp id fun ⟨g, cap, cur, e1, e2, e3⟩ => ⟨g, cap, cur, e1, Nat.le_trans (Nat.le_of_lt hb) e2, e3⟩⟩, fun q => ?_⟩
  have := (h.lt b q).1
  omega
theorem Bld.isBuilder {b R : Nat} {bs : List Value} {w : World} (h : Bld b R bs w) : Lib.IsBuilder 30 5 b b bs w := by
  obtain ⟨hb, p, v, h1, h2, h3⟩ := h
  obtain ⟨k1, k2⟩ := ownsRow_low hb h3
  rcases h2 with rfl | rfl
  · exact .inl ⟨Nat.le_refl _, v, h1, k1, k2⟩
  · exact .inr ⟨Nat.le_refl _, v, h1, k1, k2⟩
set_option maxHeartbeats 2000000 in
set_option maxRecDepth 100000 in
theorem bld_check {b R : Nat} {bs : List Value} {w : World} (h : Bld b R bs w) :
    Calls Try.prog 14 #[.pointer (some ⟨b, 0, none⟩)] w fun e w' => e = .returned (.tuple #[]) ∧ (∃ v, w'.heap[b]? = some (.cells #[.pointer (some ⟨b, 0, none⟩), v] 30 (0, 0)) ∧ w'.ownsRow R 5 1 v bs.length bs) ∧ Kpt b R w w' := by
  obtain ⟨hb, p, v, h1, h2, h3⟩ := h
  obtain ⟨k1, k2⟩ := ownsRow_low hb h3
  have c0 : w.cell? ⟨b, 0, none⟩ = some p := by rw [Lib.cell_of_heap h1]; rfl
  rcases h2 with rfl | rfl
  · have hA : Lib.BuilderAt 30 5 b b (.pointer none) bs w := ⟨Nat.le_refl _, v, h1, k1, k2⟩
    refine (Any.Builder_copyCheck_fresh (ρ := Try.bWrite_ren) { Try.bWrite with } Try.bExtraW.toX72 b w hA.cell0 hA.shape hA.frozen0).mono ?_
    rintro e w' ⟨rfl, rfl⟩
    have hbl : ∀ k, k ≠ b → (w.setCell ⟨b, 0, none⟩ (.pointer (some ⟨b, 0, none⟩))).heap[k]? = w.heap[k]? := fun k hk => Below.heap_setCell _ _ _ _ (fun e => hk (by simpa using e))
    refine ⟨rfl, ⟨v, by simp [World.setCell, Array.getElem?_modify, h1], h3.kept (row := some b) ⟨rfl, rfl, rfl, by simp [World.setCell], fun k _ hk => hbl k fun e => hk (by rw [e])⟩ (.inr k2)⟩, rfl, rfl, rfl, by simp [World.setCell], fun k _ hk => hbl k hk⟩
  · refine (Any.Builder_copyCheck_used (ρ := Try.bWrite_ren) { Try.bWrite with } Try.bExtraW.toX72 b w c0).mono ?_
    rintro e w' ⟨rfl, rfl⟩
    exact ⟨rfl, ⟨v, h1, h3⟩, Kpt.refl _ _ _⟩
set_option maxHeartbeats 2000000 in
set_option maxRecDepth 100000 in
/-- WriteString. -/
theorem bld_write {b R : Nat} {bs : List Value} {w : World} (h : Bld b R bs w) (s : ByteArray) (hlen : bs.length + s.size ≤ 140737488355328) (hR : R ≤ w.heap.size) :
    Calls Try.prog 8 #[.pointer (some ⟨b, 0, none⟩), .string s] w fun e w' => e = .returned (.tuple #[.int .i64 s.size, .nilIface]) ∧ Bld b R (bs ++ Lib.strCells s) w' ∧ Kpt b R w w' := by
  have hb := h.1
  obtain ⟨i0, hi, hz0, hz1, hz2⟩ := info_parts Try.bExtraW.infoByte
  go_enter Try.func8, Try.ntmps8
  go_wp2_with (go_at_call 14; refine (bld_check h).mono ?_)
  rintro e w1 ⟨rfl, ⟨v, hbk, hown⟩, hk1⟩
  obtain ⟨k1, k2⟩ := ownsRow_low hb hown
  have c0 : w1.cell? ⟨b, 0, none⟩ = some (.pointer (some ⟨b, 0, none⟩)) := by rw [Lib.cell_of_heap hbk]; rfl
  have c1 : w1.cell? ⟨b, 1, none⟩ = some v := by rw [Lib.cell_of_heap hbk]; rfl
  go_wp2_with (at_builtin; refine Lib.wpList_append_own_string _ rfl _ _ 28 9 rfl R 5 i0 Try.underlying28 Try.underlying9 hi hz0 hz1 hz2 _ _ _ rfl hown s rfl ?c3 ?c4 ?c5 ?_)
  case c3 => unfold maxLen; omega
  case c4 => omega
  case c5 => have := hk1.size; omega
  intro v' w2 hown' hgrow _
  have hlt : b < w1.heap.size := (Array.getElem?_eq_some_iff.1 hbk).1
  have hb2 : w2.heap[b]? = some (.cells #[.pointer (some ⟨b, 0, none⟩), v] 30 (0, 0)) := by
    rw [hgrow.block b hlt (fun e => k2 e.symm)]
    exact hbk
  have d0 : w2.cell? ⟨b, 0, none⟩ = some (.pointer (some ⟨b, 0, none⟩)) := by rw [Lib.cell_of_heap hb2]; rfl
  have d1 : w2.cell? ⟨b, 1, none⟩ = some v := by rw [Lib.cell_of_heap hb2]; rfl
  have f1 : w2.frozen? ⟨b, 1, none⟩ = false := Lib.frozen_of_heap hb2 1
  obtain ⟨ao, n', cap, rfl⟩ : ∃ ao n' cap, v' = .slice ao n' cap := by
    rcases hown'.2 with ⟨hv, _⟩ | ⟨g, cap, cur, hv, _⟩
    · exact ⟨_, _, _, hv⟩
    · exact ⟨_, _, _, hv⟩
  go_wp2
  go_ret2
  have hbl : ∀ k, k ≠ b → (w2.setCell ⟨b, 1, none⟩ (.slice ao n' cap)).heap[k]? = w2.heap[k]? := fun k hk => Below.heap_setCell _ _ _ _ (fun e => hk (by simpa using e))
  have k2' := (ownsRow_low hb hown').2
  refine ⟨rfl, ⟨hb, _, _, by simp [World.setCell, Array.getElem?_modify, hb2]; rfl, .inr rfl, ?_⟩, hk1.trans ⟨hgrow.os, hgrow.tape, hgrow.output, Nat.le_trans hgrow.size (by simp [World.setCell]), fun k kr kb => ?_⟩⟩
  · have := hown'.kept (w' := w2.setCell ⟨b, 1, none⟩ (.slice ao n' cap)) (row := some b) ⟨rfl, rfl, rfl, by simp [World.setCell], fun k _ hk => hbl k fun e => hk (by rw [e])⟩ (.inr k2')
    simpa [Lib.strCells_length] using this
  · rw [hbl k kb]
    refine hgrow.block k (by have := hk1.size; omega) fun e => ?_
    have := (hown.lt k e.symm).1
    omega

theorem Bld.size {b R : Nat} {bs : List Value} {w : World} (h : Bld b R bs w) : b < w.heap.size := by
  obtain ⟨_, p, v, h1, _⟩ := h
  exact (Array.getElem?_eq_some_iff.1 h1).1
theorem bld_len {b R : Nat} {bs : List Value} {w : World} (h : Bld b R bs w) : Calls Try.prog 9 #[.pointer (some ⟨b, 0, none⟩)] w fun e w' => e = .returned (.int .i64 bs.length) ∧ w = w' :=
  (Any.Builder_Len Try.bLen b b bs w h.isBuilder).mono fun _ _ h => ⟨h.1, h.2.symm⟩
theorem bld_str {b R : Nat} {l : List UInt8} {w : World} (h : Bld b R (Lib.byteCells l) w) : Calls Try.prog 10 #[.pointer (some ⟨b, 0, none⟩)] w fun e w' => e = .returned (.string ⟨l.toArray⟩) ∧ Below b w w' :=
  Any.Builder_String_any Try.bString Try.bExtraS b b l w h.isBuilder (Nat.le_of_lt h.size)
theorem below_of {b R B : Nat} {w w' : World} (h : Kpt b R w w') (hb : B ≤ b) (hR : B ≤ R := by omega) : Below B w w' :=
  ⟨h.os, h.tape, h.output, h.size, fun k hk => h.block k (by omega) (by omega)⟩
theorem World.push_new (w : World) (o : Obj) : (w.alloc o).heap[w.heap.size]? = some o := by
  simp only [World.alloc]
  exact Array.getElem?_push_size
open Go.Vc Go.Fu
set_option maxHeartbeats 4000000 in
set_option maxRecDepth 100000 in
theorem replace_walk (hF : Con Try.prog 6 find_fault_ct) (hI : Con Try.prog 7 find_In_ct) (text find put : List UInt8) (hp : fitS put) (w : World) :
    Calls Try.prog 4 #[.string ⟨text.toArray⟩, .string ⟨find.toArray⟩, .string ⟨put.toArray⟩] w fun e w' =>
      e = .returned (.tuple #[.string ⟨(findReplace text find put).1.toArray⟩, .int .i64 (findReplace text find put).2.1, .int .i64 (findReplace text find put).2.2]) ∧ Below w.heap.size w w' := by
  have cF : ∀ W, Calls Try.prog 6 #[.string ⟨text.toArray⟩, .string ⟨find.toArray⟩] W fun e w' => e = .returned (.int .i64 (findFault text find)) ∧ Below W.heap.size W w' := fun W =>
    hF.callsInt (text, find) trivial (vals := [.string ⟨text.toArray⟩, .string ⟨find.toArray⟩]) ⟨_, _, rfl, rfl, _, _, rfl, rfl, rfl⟩
  by_cases h0 : findFault text find = 0
  · obtain ⟨t1, t2, t3⟩ := findFault_ok.1 h0
    have hl : ∀ i ∈ findAt text find, 0 ≤ i ∧ i + find.length ≤ text.length := fun i hi => findAt_mem hi
    have ll := findAt_len text find
    have cI : ∀ W, Calls Try.prog 7 #[.string ⟨text.toArray⟩, .string ⟨find.toArray⟩] W fun e w' => Below W.heap.size W w' ∧ ∃ a c, e = .returned (.slice a (findAt text find).length c) ∧
      (findAt text find = [] ∨ ∃ b base, a = some ⟨b, base, none⟩ ∧ W.heap.size ≤ b ∧ b < w'.heap.size ∧ ∀ (j : Nat) (z : Int), (findAt text find)[j]? = some z → w'.cell? ⟨b, base + j, none⟩ = some (.int .i64 z)) := fun W =>
      hI.callsInts (text, find) ⟨by show text.length ≤ _; omega, by show find.length ≤ _; omega, t3⟩ (vals := [.string ⟨text.toArray⟩, .string ⟨find.toArray⟩]) ⟨_, _, rfl, rfl, _, _, rfl, rfl, rfl⟩
    have big : ∀ k : Nat, 600 < (rMade text put find.length ((findAt text find).take k)).1.length → findReplace text find put = ([], 0, 1) := fun k hk => replace_b h0 (rwhole_big hk)
    have fin : findReplace text find put = if 600 < (rWhole text put find.length (findAt text find)).length then ([], 0, 1) else (rWhole text put find.length (findAt text find), (rMade text put find.length (findAt text find)).2.2, 0) := by
      split
      · rename_i q; exact replace_b h0 q
      · rename_i q; exact replace_c h0 q
    have hat := rmade_at (text := text) (put := put) hl (Int.natCast_nonneg _)
    have succ := fun (k : Nat) (z : Int) (h : (findAt text find)[k]? = some z) => rmade_succ (text := text) (put := put) (fl := find.length) h
    unfold rWhole at fin
    have ends : rMade text put find.length ((findAt text find).take (findAt text find).length) = rMade text put find.length (findAt text find) := by rw [List.take_length]
    rw [← ends] at fin
    have m0 : rMade text put find.length ((findAt text find).take 0) = ([], 0, 0) := by simp [rMade]
    generalize (findAt text find) = l at *
    obtain ⟨M, hM⟩ : ∃ M : Nat → Rmade, ∀ k, M k = rMade text put find.length (l.take k) := ⟨_, fun _ => rfl⟩
    simp only [← hM] at *
    generalize findReplace text find put = res at *
    clear hM ends hF hI
    obtain ⟨tb, htb⟩ : ∃ tb : ByteArray, (⟨text.toArray⟩ : ByteArray) = tb := ⟨_, rfl⟩
    obtain ⟨fb, hfb⟩ : ∃ fb : ByteArray, (⟨find.toArray⟩ : ByteArray) = fb := ⟨_, rfl⟩
    obtain ⟨pb, hpb⟩ : ∃ pb : ByteArray, (⟨put.toArray⟩ : ByteArray) = pb := ⟨_, rfl⟩
    rw [htb, hfb] at cF cI
    rw [htb, hfb, hpb]
    have tl : tb.data.toList = text := by rw [← htb]
    have fl : fb.data.toList = find := by rw [← hfb]
    have pl : pb.data.toList = put := by rw [← hpb]
    have ts : tb.size = text.length := by rw [Lib.size_eq, tl]
    have fs : fb.size = find.length := by rw [Lib.size_eq, fl]
    have ps : pb.size = put.length := by rw [Lib.size_eq, pl]
    go_enter Try.func4, Try.ntmps4
    go_wp2_with (first
      | (go_at_call 6; refine (cF _).mono ?_; rintro e W1 ⟨rfl, b1⟩)
      | (go_at_call 7; refine (cI _).mono ?_; rintro e W3 ⟨b3, a, c, rfl, hrow⟩))
    have s1 : (W1.alloc (Obj.cells #[Value.pointer none, Value.slice none 0 0] 30)).heap.size = W1.heap.size + 1 := by simp
    have hsz3 : W1.heap.size + 1 ≤ W3.heap.size := by have := b3.size; omega
    have hb3 : W3.heap[W1.heap.size]? = some (.cells #[.pointer none, .slice none 0 0] 30 (0, 0)) := (b3.block _ (by rw [s1]; omega)).trans (World.push_new W1 _)
    have hBld : Bld W1.heap.size W3.heap.size (Lib.byteCells []) W3 := ⟨by omega, _, _, hb3, .inl rfl, World.ownsRow_nil _ _ _ _⟩
    have hw3 : Below w.heap.size w W3 := (b1.alloc b1.size _).trans (b3.mono (by have := b1.size; omega))
    rw [s1] at hrow
    clear b3 hb3 s1
    go_loopw [11, 12, 25] (fun va vn vi wr => ∃ k : Nat, k ≤ l.length ∧ va = .int .i64 (M k).2.1 ∧ vn = .int .i64 (M k).2.2 ∧ vi = .int .i64 k ∧ Bld W1.heap.size W3.heap.size (Lib.byteCells (M k).1) wr ∧ (M k).1.length ≤ 600 ∧ Kpt W1.heap.size W3.heap.size W3 wr)
      (fun _ _ i _ => l.length - (intOf i).toNat)
    case atStart => exact ⟨0, Nat.zero_le _, by rw [m0], by rw [m0], rfl, by rw [m0]; exact hBld, by rw [m0]; simp, Kpt.refl _ _ _⟩
    case round =>
      obtain ⟨k, hk, rfl, rfl, rfl, hbl, hm, hkp⟩ := hrel
      obtain ⟨a0, a1, n0, n1⟩ := hat k
      obtain ⟨an, han⟩ : ∃ an : Nat, (M k).2.1 = an := ⟨(M k).2.1.toNat, by omega⟩
      obtain ⟨nn, hnn⟩ : ∃ nn : Nat, (M k).2.2 = nn := ⟨(M k).2.2.toNat, by omega⟩
      rw [han, hnn]
      have hwr : W3.heap.size ≤ wr.heap.size := hkp.size
      by_cases hlt : k < l.length
      · obtain ⟨z, hzz⟩ : ∃ z, l[k]? = some z := ⟨_, List.getElem?_eq_getElem hlt⟩
        have hzm := hl z (List.mem_of_getElem? hzz)
        have hs := succ k z hzz
        obtain ⟨bI, base, rfl, hbI, hbI2, hcells⟩ := hrow.resolve_left (by rintro rfl; simp at hlt)
        have hc : wr.cell? ⟨bI, base + k, none⟩ = some (.int .i64 z) := by
          rw [World.cell?_of_block (hkp.block bI hbI2 (by omega))]; exact hcells k z hzz
        obtain ⟨zn, rfl⟩ : ∃ zn : Nat, z = zn := ⟨z.toNat, by omega⟩
        by_cases hsk : zn < an
        · have hs' : M (k + 1) = M k := by rw [hs]; unfold rStep; rw [if_pos (by rw [han]; omega)]
          have hsk' : (zn : Int) < an := by omega
          go_wp2
          go_roundw
          case rel => exact ⟨k + 1, by omega, by rw [hs', han], by rw [hs', hnn], by simp, by rw [hs']; exact hbl, by rw [hs']; exact hm, hkp⟩
          case measure => simp [intOf]; omega
        · have hsk' : ¬ (zn : Int) < an := by omega
          have q1 : an ≤ zn := by omega
          have q2 : zn ≤ tb.size := by omega
          have hsl : ∀ W, (Instr.slice 9 (.string tb) (some (.int .i64 (an : Int))) (some (.int .i64 (zn : Int))) none).run Try.prog W = .ok (.string (tb.extract an zn)) W := fun W => by
            rw [run_slice_string W 9 tb .i64 .i64 an zn Try.underlying9 (by omega) (by omega) (by omega)]
            rfl
          have hsb : (tb.extract an zn ++ pb).data.toList = (text.take zn).drop an ++ put := by
            rw [← pl, ← tl]
            have e1 : (tb.extract an zn ++ pb).data.toList = (tb.extract an zn).data.toList ++ pb.data.toList := by simp
            rw [e1, Lib.extract_data, List.drop_take]
          have hss : (tb.extract an zn ++ pb).size ≤ 600 + put.length := by
            rw [Lib.size_eq, hsb, List.length_append, List.length_drop, List.length_take]; omega
          have hs' : M (k + 1) = ((M k).1 ++ ((text.take zn).drop an ++ put), (zn : Int) + find.length, (nn : Int) + 1) := by
            rw [hs]; unfold rStep; rw [if_neg (by rw [han]; omega), han, hnn]; rfl
          have hbc : Lib.byteCells (M k).1 ++ Lib.strCells (tb.extract an zn ++ pb) = Lib.byteCells (M (k + 1)).1 := by
            rw [hs', Lib.strCells_eq, hsb]; simp only [Lib.byteCells_append]
          have hlc : (Lib.byteCells (M k).1).length + (Lib.strCells (tb.extract an zn ++ pb)).length = (M (k + 1)).1.length := by
            rw [← List.length_append, hbc, Lib.byteCells_length]
          have hw4 : Below w.heap.size w wr := hw3.trans (below_of hkp (by have := b1.size; omega) (by have := b1.size; omega))
          have HLC : Hid _ := hlc
          have HB1 : Hid _ := b1.size
          have HF : Hid _ := hs'
          have HBC : Hid _ := hbc
          clear hlc hs' hbc hs succ
          go_wp2_with (first
            | (go_at_call 8; refine (bld_write hbl _ (by rw [Lib.byteCells_length]; have := hp; omega) hwr).mono ?_; rintro e W4 ⟨rfl, h4, k4⟩)
            | (go_at_call 9; refine (bld_len h4).mono ?_; rintro e w' ⟨rfl, rfl⟩))
          · have hlc := HLC.out
            have hz := HB1.out
            go_ret3
            rw [big (k + 1) (by omega)]
            exact ⟨rfl, hw4.trans (below_of k4 (by omega) (by omega))⟩
          · have hlc := HLC.out
            have hs' := HF.out
            have hbc := HBC.out
            go_roundw
            case rel => exact ⟨k + 1, by omega, by rw [hs'], by rw [hs'], by simp, by rw [← hbc]; exact h4, by omega, hkp.trans k4⟩
            case measure => simp [intOf]; omega
      · obtain rfl : k = l.length := by omega
        have q3 : an ≤ tb.size := by omega
        have hsb : (tb.extract an text.length).data.toList = text.drop an := by rw [Lib.extract_data, tl, List.take_of_length_le (by rw [List.length_drop]; omega)]
        have hss : (tb.extract an text.length).size ≤ 600 := by rw [Lib.size_eq, hsb, List.length_drop]; omega
        rw [han, hnn, show ((an : Int)).toNat = an from rfl] at fin
        have hbc : Lib.byteCells (M l.length).1 ++ Lib.strCells (tb.extract an text.length) = Lib.byteCells ((M l.length).1 ++ text.drop an) := by
          rw [Lib.strCells_eq, hsb, Lib.byteCells_append]
        have hlc2 : (Lib.byteCells ((M l.length).1 ++ text.drop an)).length = ((M l.length).1 ++ text.drop an).length := Lib.byteCells_length _
        have hw4 : Below w.heap.size w wr := hw3.trans (below_of hkp (by have := b1.size; omega) (by have := b1.size; omega))
        have HB1 : Hid _ := b1.size
        go_wp2_with (first
          | (go_at_call 8; refine (bld_write hbl _ (by rw [Lib.byteCells_length]; omega) hwr).mono ?_; rintro e W4 ⟨rfl, h4, k4⟩)
          | (go_at_call 9; refine (bld_len h4).mono ?_; rintro e w' ⟨rfl, rfl⟩)
          | (go_at_call 10; refine (bld_str (by rw [← hbc]; exact h4)).mono ?_; rintro e W5 ⟨rfl, b5⟩))
        · have hz := HB1.out
          go_ret3
          rw [fin, if_pos (by rw [List.length_append, List.length_drop]; omega)]
          exact ⟨rfl, hw4.trans (below_of k4 (by omega) (by omega))⟩
        · have hz := HB1.out
          go_ret3
          rw [fin, if_neg (by rw [List.length_append, List.length_drop]; omega)]
          exact ⟨rfl, (hw4.trans (below_of k4 (by omega) (by omega))).trans (b5.mono (by omega))⟩
  · rw [replace_a h0]
    go_enter Try.func4, Try.ntmps4
    go_wp2_with (go_at_call 6; refine (cF _).mono ?_; rintro e W1 ⟨rfl, b1⟩)
    go_ret3
    exact ⟨rfl, b1⟩
theorem replace_con (hF : Con Try.prog 6 find_fault_ct) (hI : Con Try.prog 7 find_In_ct) : Con Try.prog 4 find_Replace_ct := by
  have hc : callable Try.prog 4 = true := by kernel_rfl
  refine ⟨hc, fun (x : List UInt8 × List UInt8 × List UInt8) hx => ⟨fun E fz w vals st hrel => .inl ⟨hc, ?_⟩⟩⟩
  obtain ⟨v1, _, rfl, rfl, v2, _, rfl, rfl, v3, _, rfl, rfl, rfl⟩ : ∃ v1 us, vals = v1 :: us ∧ v1 = .string ⟨x.1.toArray⟩ ∧ ∃ v2 us', us = v2 :: us' ∧ v2 = .string ⟨x.2.1.toArray⟩ ∧ ∃ v3 us'', us' = v3 :: us'' ∧ v3 = .string ⟨x.2.2.toArray⟩ ∧ us'' = [] := hrel
  refine (replace_walk hF hI x.1 x.2.1 x.2.2 hx w).mono ?_
  rintro e w' ⟨rfl, hb⟩
  obtain ⟨k1, k2⟩ := below_ext id st hb
  refine ⟨.tup [.str (findReplace x.1 x.2.1 x.2.2).1, .int .i64 (findReplace x.1 x.2.1 x.2.2).2.1, .int .i64 (findReplace x.1 x.2.1 x.2.2).2.2], [], _, E, fz, rfl, k1, k2, ?_, ?_⟩
  · exact ⟨_, rfl, _, _, rfl, rfl, _, _, rfl, rfl, _, _, rfl, rfl, rfl⟩
  · exact ⟨_, ⟨_, rfl, _, rfl, _, rfl, rfl, rfl⟩, rfl⟩
end Go.Proofs
