/- The order of a text's ends by sort.Slice, as a summary. Conditions: none. -/
import Derived.Test.YtkemhbclkglmbaaLayS
import Derived.Test.YtkemhbclkglmbaaVpYC
import Derived.Test.YtkemhbclkglmbaaVyO
import Derived.Deep.QuietTactic
set_option linter.unusedVariables false
set_option linter.unusedSimpArgs false
namespace Go.Proofs.Ytkemhbclkglmbaa
open Go.Vc Go.Fu Go.Shelf Go.RowKit Go.Lib Go.Sort

theorem ex_end (s : ByteArray) (a : Nat) : (s.extract a s.size).toList = s.data.toList.drop a := by
  rw [ByteArray.toList_eq]
  simp only [ByteArray.data_extract, Array.toList_extract, List.extract_eq_take_drop]
  exact List.take_of_length_le (by rw [List.length_drop, Array.length_toList]; exact Nat.le_refl _)
set_option maxHeartbeats 2000000 in
/-- The closure: it reads two variables and two cells of the row. -/
theorem ends_less (Bt ot Bs os_ blk off c size : Nat) (W : World) (tx : ByteArray) (a b : Int) (ht : W.cell? ⟨Bt, ot, none⟩ = some (.string tx)) (hs : W.cell? ⟨Bs, os_, none⟩ = some (.slice (some ⟨blk, off, none⟩) size c))
    (i j : Nat) (hi : i < size) (hj : j < size) (ci : W.cell? ⟨blk, off + i, none⟩ = some (.int .i64 a)) (cj : W.cell? ⟨blk, off + j, none⟩ = some (.int .i64 b))
    (ha : 0 ≤ a) (ha2 : a < tx.size) (hb : 0 ≤ b) (hb2 : b < tx.size) (hn : size < 4611686018427387904) (ht2 : tx.size < 4611686018427387904) :
    Calls Try.prog 112 #[.int .i64 i, .int .i64 j, .pointer (some ⟨Bt, ot, none⟩), .pointer (some ⟨Bs, os_, none⟩)] W fun e w' => e = .returned (.bool (Op.bytesLess (tx.data.toList.drop a.toNat) (tx.data.toList.drop b.toNat))) ∧ ∃ q, w' = W.drewN q := by
  go_enter Try.func112, Try.ntmps112
  go_wp2
  go_quiet (fail)
  go_wp2
  go_ret
  show Ending.returned (.bool (Op.bytesLess (tx.extract a.toNat tx.size).toList (tx.extract b.toNat tx.size).toList)) = _ ∧ _
  rw [ex_end, ex_end]
  exact ⟨rfl, nq, rfl⟩

theorem bytesLess_lex : ∀ a b : Bts, Op.bytesLess a b = true ↔ lexLt a b
  | _, [] => by simp [Op.bytesLess, lex_nil]
  | [], _ :: _ => by simp [Op.bytesLess, lexLt]
  | a :: s, b :: t => by simp [Op.bytesLess, lexLt, bytesLess_lex s t]

noncomputable def endT : TypeInfo := (Try.prog.info? 35).get (by kernel_rfl)
noncomputable def endE : TypeInfo := (Try.prog.info? 3).get (by kernel_rfl)
theorem endK (n : Nat) (h2 : 2 ≤ n) : Lib.swapperK n endE 2 = 5 := by
  have a : endE.hasPointers = false := by kernel_rfl
  have b : endE.bytes = 8 := by kernel_rfl
  have c : (n == 0) = false := by simp; omega
  have d : (n == 1) = false := by simp; omega
  simp [Lib.swapperK, a, b, c, d]
theorem endK0 : Lib.swapperK 0 endE 2 = 1 := by kernel_rfl
theorem endK1 : Lib.swapperK 1 endE 2 = 2 := by kernel_rfl

abbrev Pl (tx : Bts) := {x : Int // inT tx x}
def plLt (tx : Bts) (x y : Pl tx) : Bool := Op.bytesLess (suf tx x.1) (suf tx y.1)
theorem plSwo (tx : Bts) : SWO (plLt tx) where
  irrefl x := by
    cases h : plLt tx x x with
    | false => rfl
    | true => exact absurd ((bytesLess_lex _ _).1 h) (lex_irrefl _)
  trans x y z h1 h2 := (bytesLess_lex _ _).2 (lex_trans ((bytesLess_lex _ _).1 h1) ((bytesLess_lex _ _).1 h2))
  ntrans x y z h1 h2 := by
    cases h : plLt tx x z with
    | false => rfl
    | true =>
      refine absurd ((bytesLess_lex _ _).1 h) (lex_ntrans (t := suf tx y.1) (fun q => ?_) fun q => ?_)
      · rw [show plLt tx x y = true from (bytesLess_lex _ _).2 q] at h1; cases h1
      · rw [show plLt tx y z = true from (bytesLess_lex _ _).2 q] at h2; cases h2

theorem box_cell {E : Env} {fz : Nat → Prop} {S : Store} {w : World} (st : St E fz S w) {p v k : Nat} {x : AVal} (hp : S[p]? = some (.row v k [x])) : ∃ b base cap kk, E v = some (.real b base cap kk) ∧ b < w.heap.size ∧ ∃ c, w.cell? ⟨b, base, none⟩ = some c ∧ Rel E fz w x c := by
  rcases st.ok p _ hp with ⟨_, h⟩ | ⟨b, base, cap, arr, T, lo, hi, g1, g2, g3, g4, g5, g6, g7⟩
  · cases h
  · obtain ⟨c, h1, _, h3⟩ := g6.get (i := 0) rfl
    exact ⟨b, base, cap, k, g1, (Array.getElem?_eq_some_iff.1 g2).1, c, by simpa using h1, h3⟩

theorem sa_small {tx : Bts} {ls : List Int} (hp : ls.Perm (upTo tx.length)) (h : ls.length ≤ 1) : saOf tx = ls := by
  refine sa_eq ⟨hp, ?_⟩
  match ls, h with
  | [], _ => exact .nil
  | [a], _ => simp

set_option maxHeartbeats 1000000 in
theorem ends_tiny (p : Option Addr) (n c : Nat) (h1 : n ≤ 1) (lb : Array Value) (w : World) : Calls Try.prog 111 #[.iface 35 (.slice p n c), .func (.func 112) #[] lb] w fun e w' => e = .returned (.tuple #[]) ∧ ∃ os, w' = grow w os := by
  rcases Nat.lt_or_ge n 1 with q | q
  · obtain rfl : n = 0 := by omega
    exact Any.sort_Slice_tiny Try.sortSlice 35 3 endT endE (by kernel_rfl) (by kernel_rfl) (by kernel_rfl) (by kernel_rfl) 2 (fun _ => by kernel_rfl) p 0 c (by omega) 129 (by rw [endK0]; kernel_rfl) _ _ lb w
  · obtain rfl : n = 1 := by omega
    exact Any.sort_Slice_tiny Try.sortSlice 35 3 endT endE (by kernel_rfl) (by kernel_rfl) (by kernel_rfl) (by kernel_rfl) 2 (fun _ => by kernel_rfl) p 1 c (by omega) 130 (by rw [endK1]; kernel_rfl) _ _ lb w

/-- New blocks alone. -/
theorem grow_post {E : Env} {fz : Nat → Prop} {S : Store} {w : World} (st : St E fz S w) (os : Array Obj) : St E fz S (grow w os) ∧ Ext E fz S w E fz S (grow w os) := by
  have hh : ∀ b : Nat, b < w.heap.size → (grow w os).heap[b]? = w.heap[b]? := fun b hb => by
    show (w.heap ++ os)[b]? = _
    rw [Array.getElem?_append_left hb]
  have hs : w.heap.size ≤ (grow w os).heap.size := by show w.heap.size ≤ (w.heap ++ os).size; simp
  exact ⟨⟨fun l o hl => (st.ok l o hl).mono (fun _ _ h => h) (fun _ h => h) (fun b hb => hh b (st.fzlt b hb)) fun b hb => ⟨hh b (st.own_lt ⟨o, hl, hb⟩).1, (st.own_lt ⟨o, hl, hb⟩).2⟩, st.sep, fun b hb => Nat.lt_of_lt_of_le (st.fzlt b hb) hs, st.fresh⟩,
    ⟨fun _ _ h => h, fun _ h => h, fun _ h => .inl h, fun b hb _ => hh b hb, fun _ h => .inl h, hs, rfl, rfl, ⟨rfl, Nat.le_refl _⟩⟩⟩

set_option maxHeartbeats 2000000 in
theorem ends_calls {S : Store} {p ver pt vt kt ps vs ks : Nat} {tx : Bts} {ls : List Int} (hp : S[p]? = some (.row ver 1 (ints64 ls))) (ht : S[pt]? = some (.row vt kt [.str tx])) (hs : S[ps]? = some (.row vs ks [.sl p ver 0 ls.length]))
    (hperm : ls.Perm (upTo tx.length)) (hlen : tx.length ≤ 600) :
    ACalls Try.prog 111 [.iface 35 (.sl p ver 0 ls.length), .fn (.func 112) [] [.ptr pt vt 0, .ptr ps vs 0]] S fun r S' => r = .tup [] ∧ S' = S.set p (.row ver 1 (ints64 (saOf tx))) := by
  have ll : ls.length = tx.length := by rw [hperm.length_eq, upTo_len]
  have hlt : p < S.length := (List.getElem?_eq_some_iff.1 hp).1
  refine ⟨fun E fz w vals st hrel => ?_⟩
  simp only [RelL, Rel] at hrel
  obtain ⟨v1, _, rfl, ⟨u, rfl, r1⟩, v2, _, rfl, ⟨_, us, rfl, rfl, w1, _, rfl, ⟨bt, ot, ct, kt', et, rfl⟩, w2, _, rfl, ⟨bs, os_, cs, ks', es, rfl⟩, rfl⟩, rfl⟩ := hrel
  by_cases h2 : ls.length ≤ 1
  · have e0 : saOf tx = ls := sa_small hperm h2
    have e1 : ∃ a c, u = .slice a ls.length c := by
      rcases r1 with ⟨h0, a, rfl⟩ | ⟨b, base, cap, kk, c, e1, e2, e3, rfl⟩
      · exact ⟨a, 0, by rw [h0]⟩
      · exact ⟨_, c, rfl⟩
    obtain ⟨a, c, rfl⟩ := e1
    refine (ends_tiny a ls.length c h2 _ w).mono ?_
    rintro e w' ⟨rfl, os, rfl⟩
    have e2 : S.set p (.row ver 1 (ints64 (saOf tx))) = S := by
      rw [e0]
      apply List.ext_getElem?
      intro i
      by_cases h : i = p
      · subst h; rw [List.getElem?_set_self hlt, hp]
      · rw [List.getElem?_set_ne (Ne.symm h)]
    obtain ⟨g1, g2⟩ := grow_post st os
    exact ⟨.tup [], S, .tuple #[], E, fz, rfl, g2, g1, by simp only [Rel, RelL]; exact ⟨[], rfl, rfl⟩, rfl, e2.symm⟩
  rcases r1 with ⟨h0, _⟩ | ⟨b, base, cap, kk, c, e1, e2, e3, rfl⟩
  · omega
  rcases st.ok p _ hp with ⟨g1, g2⟩ | ⟨b', base', cap', arr, T, lo, hi, g1, g2, g3, g4, g5, g6, g7⟩
  · rw [e1] at g1; cases g1
  rw [e1] at g1; cases g1
  have hl0 : 0 < ls.length := by omega
  letI : Inhabited (Pl tx) := ⟨⟨0, by omega, by omega⟩⟩
  have hin : ∀ x ∈ ls, inT tx x := fun x hx => sa_in hperm hx
  have hb : b < w.heap.size := (Array.getElem?_eq_some_iff.1 g2).1
  obtain ⟨d, hd⟩ : ∃ d : Array (Pl tx), d.toList.map (·.1) = ls := ⟨(ls.attach.map fun x => (⟨x.1, hin x.1 x.2⟩ : Pl tx)).toArray, by simp⟩
  have hds : d.size = ls.length := by rw [← hd]; simp
  have hget : ∀ j (hj : j < ls.length), (d[j]!).1 = ls[j] := fun j hj => by
    rw [getElem!_pos _ j (by rw [hds]; exact hj)]
    have : (d.toList.map (·.1))[j]? = ls[j]? := by rw [hd]
    rw [List.getElem?_map, Array.getElem?_toList, Array.getElem?_eq_getElem (by rw [hds]; exact hj), List.getElem?_eq_getElem hj] at this
    simpa using this
  have hln : (ints64 ls).length = ls.length := by simp
  rw [hln] at g4
  have hH : Holds (fun x : Pl tx => Value.int .i64 x.1) w b base d := fun j hj => by
    rw [hds] at hj
    refine ⟨?_, ?_⟩
    · have hx : (ints64 ls)[j]? = some (.int .i64 ls[j]) := by rw [List.getElem?_map, List.getElem?_eq_getElem hj]; rfl
      obtain ⟨c', hc, _, hrel⟩ := g6.get hx
      simp only [Rel] at hrel
      subst hrel
      rw [hc]
      show some (Value.int .i64 ls[j]) = some (Value.int .i64 (d[j]!).1)
      rw [hget j hj]
    · rw [frozen_mk g2]
      rcases g5 with g5 | g5
      · subst g5
        by_cases q : lo ≤ base + j
        · have : ¬ base + j < lo := by omega
          simp [this]
        · simp [q]
      · have : ¬ lo ≤ base + j := by omega
        simp [this]
  obtain ⟨bt', ot', ct', kt2, et', hbt, c1, hc1, rc1⟩ := box_cell st ht
  rw [et] at et'; cases et'
  obtain ⟨bs', os', cs', ks2, es', hbs, c2, hc2, rc2⟩ := box_cell st hs
  rw [es] at es'; cases es'
  simp only [Rel] at rc1
  subst rc1
  have rc2' : c2 = .slice (some ⟨b, base, none⟩) ls.length c ∨ ∃ c', c2 = .slice (some ⟨b, base, none⟩) ls.length c' := by
    simp only [Rel] at rc2
    rcases rc2 with ⟨h0, _⟩ | ⟨b3, base3, cap3, k3, c3, q1, q2, q3, rfl⟩
    · omega
    · rw [e1] at q1; cases q1; exact .inr ⟨c3, by simp⟩
  have rc2' : ∃ c', c2 = .slice (some ⟨b, base, none⟩) ls.length c' := rc2'.elim (fun h => ⟨c, h⟩) id
  obtain ⟨c', rfl⟩ := rc2'
  have ne : ∀ {q vq kq bq oq cq kq' : Nat} {y : AVal}, S[q]? = some (.row vq kq [y]) → E vq = some (.real bq oq cq kq') → q ≠ p → bq ≠ b := fun {q vq kq bq oq cq kq' y} h1 h2 hq e => by
    subst e
    exact hq (st.sep q p bq ⟨_, h1, by simp [obBlock, h2]⟩ ⟨_, hp, by simp [obBlock, e1]⟩)
  have hd0 : ∀ x y, ints64 ls ≠ [AVal.str x] ∧ ints64 ls ≠ [AVal.sl y ver 0 ls.length] := fun x y => by
    cases ls with
    | nil => exact ⟨fun h => by simp at h, fun h => by simp at h⟩
    | cons a r => exact ⟨fun h => by simp at h, fun h => by simp at h⟩
  have npt : pt ≠ p := fun e => by
    subst e
    have q := hp.symm.trans ht
    simp only [Option.some.injEq, Ob.row.injEq] at q
    exact (hd0 tx 0).1 q.2.2
  have nps : ps ≠ p := fun e => by
    subst e
    have q := hp.symm.trans hs
    simp only [Option.some.injEq, Ob.row.injEq] at q
    exact (hd0 tx ps).2 q.2.2
  have nbt := ne ht et npt
  have nbs := ne hs es nps
  have hlt2 : tx.length < 4611686018427387904 := by omega
  have hless : LessReads Try.prog 112 #[.pointer (some ⟨bt, ot + 0, none⟩), .pointer (some ⟨bs, os_ + 0, none⟩)] (fun x : Pl tx => Value.int .i64 x.1) (plLt tx) b base d.size w := fun m os dk hsz i j hi hj => by
    obtain ⟨k1, k2, k3⟩ := sortWorld_heap (enc := fun x : Pl tx => Value.int .i64 x.1) (off := base) (m := m) (dk := dk) (os := os) g2
    have row : ∀ t, t < d.size → (sortWorld (fun x : Pl tx => Value.int .i64 x.1) w b base m dk os).cell? ⟨b, base + t, none⟩ = some (.int .i64 (dk[t]!).1) := fun t htt => by
      rw [cell_mk k1]
      simp only [putCells, Array.getElem?_mapIdx, Array.getElem?_eq_getElem (show base + t < arr.size by omega), Option.map_some]
      rw [if_pos ⟨by omega, by omega⟩, show base + t - base = t by omega]
    have h := ends_less bt (ot + 0) bs (os_ + 0) b base c' d.size (sortWorld (fun x : Pl tx => Value.int .i64 x.1) w b base m dk os) ⟨tx.toArray⟩ (dk[i]!).1 (dk[j]!).1
      (by rw [Nat.add_zero, cell_of_heap (k2 bt nbt hbt)]; exact hc1) (by rw [Nat.add_zero, cell_of_heap (k2 bs nbs hbs), hc2, hds]) i j hi hj (row i hi) (row j hj) (dk[i]!).2.1 (by have := (dk[i]!).2.2; simpa [ByteArray.size] using this) (dk[j]!).2.1 (by have := (dk[j]!).2.2; simpa [ByteArray.size] using this) (by omega) (by simpa [ByteArray.size] using hlt2)
    exact h
  have hcon := Any.sort_Slice_sorted Try.sortSlice 35 3 endT endE (by kernel_rfl) (by kernel_rfl) (by kernel_rfl) (by kernel_rfl) 2 (fun _ => by kernel_rfl) (by kernel_rfl) (fun _ => by kernel_rfl) (fun x : Pl tx => Value.int .i64 x.1) (fun _ => rfl) (plLt tx) (plSwo tx) 112 _
    (enters_of Try.func112 (by kernel_rfl) rfl) b base c d (by omega) (by omega) 133 (by rw [endK _ (by omega)]; kernel_rfl) true
    (fun args W => run_callFunc_extern Try.func133 (by kernel_rfl) (by kernel_rfl) (by kernel_rfl) (e := Extern.ReflectliteSwapper.swap true) (by kernel_rfl) args W) w hless hH hb
  rw [hds] at hcon
  refine (show Calls Try.prog 111 #[.iface 35 (.slice (some ⟨b, base, none⟩) ls.length c), .func (.func 112) #[] #[.pointer (some ⟨bt, ot + 0, none⟩), .pointer (some ⟨bs, os_ + 0, none⟩)]] w _ from hcon).mono ?_
  rintro e w' ⟨rfl, d', n, os, hP, hSo, rfl⟩
  have hd's : d'.size = ls.length := by rw [← hds]; exact hP.1
  have hPe : d'.toList.Perm d.toList := by
    have := hP.2.2
    rwa [show d'.extract 0 ls.length = d' by rw [← hd's]; simp, show d.extract 0 ls.length = d by rw [← hds]; simp] at this
  have hmp : (d'.toList.map (·.1)).Perm (upTo tx.length) := (hPe.map (·.1)).trans (hd ▸ hperm)
  have hl' : saOf tx = d'.toList.map (·.1) := by
    refine sa_eq ⟨hmp, List.pairwise_iff_getElem.2 fun i j hi hj hij => ?_⟩
    have nd : (d'.toList.map (·.1)).Nodup := hmp.nodup_iff.2 (upTo_nodup _)
    have hne := List.pairwise_iff_getElem.1 (List.nodup_iff_pairwise_ne.1 nd) i j hi hj hij
    simp only [List.length_map, Array.length_toList] at hi hj
    have q := hSo i j (Nat.zero_le _) hij (by omega)
    rw [getElem!_pos _ i hi, getElem!_pos _ j hj] at q
    simp only [List.getElem_map, Array.getElem_toList] at hne ⊢
    rcases lex_total (suf tx (d'[i]).1) (suf tx (d'[j]).1) with t | t | t
    · exact t
    · exact absurd (suf_inj (d'[i]).2 (d'[j]).2 t) hne
    · have : plLt tx d'[j] d'[i] = true := (bytesLess_lex _ _).2 t
      rw [this] at q; cases q
  obtain ⟨k1, k2, k3⟩ := sortWorld_heap (enc := fun x : Pl tx => Value.int .i64 x.1) (off := base) (m := n) (dk := d') (os := os) g2
  have ln2 : (ints64 (saOf tx)).length = ls.length := by rw [hl']; simp [ints64, hd's]
  obtain ⟨q1, q2⟩ := st.upd (E' := E) (S' := S.set p (.row ver 1 (ints64 (saOf tx)))) (w' := sortWorld (fun x : Pl tx => Value.int .i64 x.1) w b base n d' os) p (.row ver 1 (ints64 (saOf tx))) (fun _ _ h => h) st.fresh
    (fun l' hl' => by rw [List.getElem?_set_ne (Ne.symm hl')]) (by rw [List.getElem?_set_self hlt]) k3 (fun b' hb' hno => k2 b' (fun e => hno (by subst e; exact ⟨_, hp, by simp [obBlock, e1]⟩)) hb')
    (fun b' hb' => .inl (by simp [obBlock, e1] at hb'; subst hb'; exact ⟨_, hp, by simp [obBlock, e1]⟩))
    (.inr ⟨b, base, cap, putCells (fun x : Pl tx => Value.int .i64 x.1) base d' arr, T, lo, hi, e1, k1, by simpa [putCells] using g3, by rw [ln2]; exact g4, by simpa [putCells] using g5, RelC.mk fun i x hx => (by
        have hi' : i < d'.size := by
          rcases Nat.lt_or_ge i d'.size with h | h
          · exact h
          · rw [List.getElem?_eq_none (by rw [ln2]; omega)] at hx; cases hx
        have ex : x = .int .i64 (d'[i]'hi').1 := by
          rw [hl'] at hx
          simp only [ints64, List.getElem?_map, Array.getElem?_toList, Array.getElem?_eq_getElem hi', Option.map_some, Option.some.injEq] at hx
          exact hx.symm
        subst ex
        refine ⟨.int .i64 (d'[i]'hi').1, ?_, rfl, by simp only [Rel]⟩
        rw [cell_mk k1]
        simp only [putCells, Array.getElem?_mapIdx, Array.getElem?_eq_getElem (show base + i < arr.size by omega), Option.map_some]
        rw [if_pos ⟨by omega, by omega⟩, show base + i - base = i by omega, getElem!_pos _ i hi']), g7⟩) rfl rfl ⟨rfl, by show w.drawn ≤ w.drawn + n; omega⟩
  exact ⟨.tup [], _, .tuple #[], E, fz, rfl, q2, q1, by simp only [Rel, RelL]; exact ⟨[], rfl, rfl⟩, rfl, rfl⟩

/-! ### As a summary -/
noncomputable def ends_sev (xs : List TV) (G : List RF) (TS : List TOb) : Option (List Prop × TV × List RF × List TOb) :=
  match xs with
  | [.ifs t0 l, .fn g [.ptr a oa, .ptr b ob]] => (match Nat.beq t0 35, Nat.beq g 112, Nat.beq oa 0, Nat.beq ob 0, objAt TS l, objAt TS a, objAt TS b with
    | true, true, true, true, some (.row t ls), some (.cells _ [.str s]), some (.cells _ [.slf l']) => (match Nat.beq l l', intRow t ls with
      | true, some is => some ([is.Perm (upTo s.length) ∧ s.length ≤ 600], .tup [], G, setOb TS l (.row (.int .i64) (saOf s)))
      | _, _ => none)
    | _, _, _, _, _, _, _ => none)
  | _ => none
noncomputable def ref_ends_sort_sf : Fi := ⟨2, .ret, [], .d, ⟨[], []⟩, some ⟨ends_sev⟩⟩

theorem ends_sum : SpOk Try.prog 111 ⟨ends_sev⟩ := by
  intro xs G TS ps y G' TS' h hps H S AG ys st hG hs
  unfold ends_sev at h
  simp only at h
  split at h
  case h_2 => cases h
  rename_i t0 l g a oa b ob
  split at h
  case h_2 => cases h
  rename_i t ls ka s kb l' h1 h2 h3 h4 hl ha hb
  split at h
  case h_2 => cases h
  rename_i is h5 hi
  cases h
  have e1 := beq_eq h1
  have e2 := beq_eq h2
  have e3 := beq_eq h3
  have e4 := beq_eq h4
  have e5 := beq_eq h5
  subst e1 e2 e3 e4 e5
  have he := intRow_eq hi
  cases he
  obtain ⟨hperm, hlen⟩ := hps.cons.1
  obtain ⟨loc, q1, q2⟩ := row_get st hl
  obtain ⟨pa, va, xa, a1, a2, a3⟩ := cells_get st ha
  obtain ⟨pb, vb, xb, b1, b2, b3⟩ := cells_get st hb
  simp only [SimL, SimV] at hs a3 b3
  obtain ⟨y1, _, rfl, ⟨hd, k1, rfl⟩, y2, _, rfl, ⟨ycaps, rfl, w1, _, rfl, ⟨ha1, pa', va', c1, c2, rfl⟩, w2, _, rfl, ⟨hb1, pb', vb', d1, d2, rfl⟩, rfl⟩, rfl⟩ := hs
  obtain ⟨_, _, rfl, rfl, rfl⟩ := a3
  obtain ⟨_, _, rfl, ⟨hd', m1, rfl⟩, rfl⟩ := b3
  rw [q1] at k1 m1; cases k1; cases m1
  rw [a1] at c1; cases c1; cases c2
  rw [b1] at d1; cases d1; cases d2
  cases loc with
  | none =>
    simp only [RowAt] at q2
    have q2 : is = [] := q2
    subst q2
    have s0 : s = [] := by
      have := hperm.length_eq
      rw [upTo_len] at this
      exact List.length_eq_zero_iff.1 this.symm
    subst s0
    refine ACallsMono (R := fun r S' => r = .tup [] ∧ S' = S) ⟨fun E fz w vals stE hrel => ?_⟩ fun r S' ⟨e1, e2⟩ => ⟨H, ?_, hG, ?_⟩
    · simp only [slA, RelL, Rel] at hrel
      obtain ⟨v1, _, rfl, ⟨u, rfl, rfl⟩, v2, _, rfl, ⟨_, us, rfl, rfl, w1, _, rfl, ⟨bt, ot, ct, kt', et, rfl⟩, w2, _, rfl, ⟨bs, os_, cs, ks', es, rfl⟩, rfl⟩, rfl⟩ := hrel
      refine (ends_tiny none 0 0 (by omega) _ w).mono ?_
      rintro e w' ⟨rfl, os, rfl⟩
      obtain ⟨g1, g2⟩ := grow_post stE os
      exact ⟨.tup [], S, .tuple #[], E, fz, rfl, g2, g1, by simp only [Rel, RelL]; exact ⟨[], rfl, rfl⟩, rfl, rfl⟩
    · rw [e2, setOb_eq, sa_small hperm (by simp)]
      have e3 : TS.set l (.row (.int .i64) ([] : List Int)) = TS := by
        apply List.ext_getElem?
        intro i
        by_cases h : i = l
        · subst h; rw [List.getElem?_set_self (obj_lt hl)]; rw [objAt_eq] at hl; rw [hl]
        · rw [List.getElem?_set_ne (Ne.symm h)]
      show St3 H (TS.set l (.row (.int .i64) ([] : List Int))) S
      rw [e3]; exact st
    · rw [e1]; simp only [SimV]; exact ⟨[], rfl, by simp [SimL]⟩
  | some pv =>
    obtain ⟨p, ver⟩ := pv
    have hp : S[p]? = some (.row ver 1 (ints64 is)) := by
      have q2 : S[p]? = some (.row ver 1 (is.flatMap fun n : Int => encT (.int .i64) n)) := q2
      rw [flat_ints] at q2; exact q2
    have ll : (saOf s).length = is.length := by rw [sa_len (sa_spec s), hperm.length_eq, upTo_len]
    refine ACallsMono (ends_calls hp a2 b2 hperm hlen) fun r S' ⟨e1, e2⟩ => ⟨H, ?_, hG, ?_⟩
    · rw [e2, setOb_eq]
      refine st.put (obj_lt hl) q1 rfl ⟨some (p, ver), ?_, ?_⟩
      · exact q1.trans (congrArg (fun n => some (⟨some (p, ver), szT (.int .i64), n, []⟩ : Hd)) ll.symm)
      · show (S.set p _)[p]? = some (.row ver 1 ((saOf s).flatMap fun n : Int => encT (.int .i64) n))
        rw [List.getElem?_set_self (List.getElem?_eq_some_iff.1 hp).1, flat_ints]
    · rw [e1]; simp only [SimV]; exact ⟨[], rfl, by simp [SimL]⟩
theorem ends_fok : FiOk Try.prog 111 ref_ends_sort_sf := ⟨by kernel_rfl, fun h => (by cases h), fun s hs => by cases hs; exact ends_sum⟩
end Go.Proofs.Ytkemhbclkglmbaa
