/- A machine of many finds in memory; its steps: walked. Conditions: none. -/
import Derived.Test.YtfelfimcnidplaaGF
import Derived.Test.YtfelfimcnidplaaVpFM
import Derived.Test.YtfelfimcnidplaaVh8
set_option linter.unusedVariables false
set_option linter.unusedSimpArgs false
set_option maxRecDepth 100000
namespace Go.Proofs.Ytfelfimcnidplaa.F
open Go.Vc Go.Fu
/-- A state: the text that leads to it, its places, what comes behind it, the pointer back, its find. -/
structure Nd where
  s : List UInt8
  p : Nat
  v : Nat
  lm : Nat
  vm : Nat
  es : List (UInt8 × Nat × Nat)
  bk : Option (Nat × Nat)
  fd : Int
def bkA : Option (Nat × Nat) → AVal
  | none => .nilp
  | some x => .ptr x.1 x.2 0
def ndC (n : Nd) : List AVal := [.map n.lm n.vm, bkA n.bk, .int .i64 n.fd, .int .i64 (n.s.length : Int)]
def esA (es : List (UInt8 × Nat × Nat)) : List (AVal × AVal) := es.map fun e => (.int .u8 (e.1.toNat : Int), .ptr e.2.1 e.2.2 0)
def ndsM : List Nd → HM
  | [] => HM.nil
  | n :: N => (pt n.p (.row n.v 0 (ndC n)) + pt n.lm (.mapo n.vm (esA n.es))) + ndsM N
theorem ndsM_append (A B : List Nd) : ndsM (A ++ B) = ndsM A + ndsM B := by
  induction A with
  | nil => show ndsM B = HM.nil + ndsM B; rw [HM.nil_add]
  | cons n A ih => show _ + ndsM (A ++ B) = (_ + ndsM A) + ndsM B; rw [ih]; ac_rfl
theorem ndsM_mid (A B : List Nd) (n : Nd) : ndsM (A ++ n :: B) = pt n.p (.row n.v 0 (ndC n)) + (pt n.lm (.mapo n.vm (esA n.es)) + (ndsM A + ndsM B)) := by
  rw [ndsM_append]; show ndsM A + ((_ + _) + ndsM B) = _; ac_rfl
theorem nd_split {N : List Nd} {n : Nd} (h : n ∈ N) : ∃ A B, N = A ++ n :: B := List.append_of_mem h
theorem nds_at {N : List Nd} {n : Nd} {S : Store} {m : HM} (hS : Has S (ndsM N + m)) (h : n ∈ N) : S[n.p]? = some (.row n.v 0 (ndC n)) := by
  obtain ⟨A, B, rfl⟩ := nd_split h
  rw [ndsM_mid] at hS
  exact (hS.eq (m' := pt n.p (.row n.v 0 (ndC n)) + (pt n.lm (.mapo n.vm (esA n.es)) + (ndsM A + ndsM B) + m)) (by ac_rfl)).get
theorem nds_inj {N : List Nd} {n c : Nd} {S : Store} {m : HM} (hS : Has S (ndsM N + m)) (hn : n ∈ N) (hc : c ∈ N) (e : n.p = c.p) : n = c := by
  obtain ⟨A, B, rfl⟩ := nd_split hn
  refine Classical.byContradiction fun hne => ?_
  have hc2 : c ∈ A ++ B := by
    rcases List.mem_append.1 hc with h | h
    · exact List.mem_append_left _ h
    · rcases List.mem_cons.1 h with h | h
      · exact absurd h.symm hne
      · exact List.mem_append_right _ h
  obtain ⟨C, D, hCD⟩ := nd_split hc2
  rw [ndsM_mid, ← ndsM_append, hCD, ndsM_mid] at hS
  exact has_ne (hS.eq (m' := pt n.p (.row n.v 0 (ndC n)) + (pt c.p (.row c.v 0 (ndC c)) + (pt n.lm (.mapo n.vm (esA n.es)) + (pt c.lm (.mapo c.vm (esA c.es)) + (ndsM C + ndsM D)) + m))) (by ac_rfl)) e
theorem esA_keys (es : List (UInt8 × Nat × Nat)) : Keys (.int .u8) (esA es) := fun e he => by
  obtain ⟨x, _, rfl⟩ := List.mem_map.1 he; rfl
theorem es_look (es : List (UInt8 × Nat × Nat)) (b : UInt8) : (∃ j p v, keyAt (.int .u8 (b.toNat : Int)) (esA es) = some (j, .ptr p v 0) ∧ (b, p, v) ∈ es) ∨ (keyAt (.int .u8 (b.toNat : Int)) (esA es) = none ∧ b ∉ es.map (·.1)) := by
  induction es with
  | nil => exact .inr ⟨rfl, by simp⟩
  | cons e es ih =>
    obtain ⟨c, p, v⟩ := e
    by_cases h : b = c
    · subst h
      exact .inl ⟨0, p, v, by show keyAt _ ((_, _) :: esA es) = _; unfold keyAt; simp [keySame], by simp⟩
    · have k : keySame (.int .u8 (b.toNat : Int)) (.int .u8 (c.toNat : Int)) = false := by
        simp only [keySame, beq_eq_false_iff_ne]
        intro q; exact h (UInt8.toNat_inj.1 (by omega))
      rcases ih with ⟨j, p', v', h1, h2⟩ | ⟨h1, h2⟩
      · refine .inl ⟨j + 1, p', v', ?_, List.mem_cons_of_mem _ h2⟩
        show keyAt _ ((_, _) :: esA es) = _
        unfold keyAt; rw [k, h1]
      · refine .inr ⟨?_, by simp only [List.map_cons, List.mem_cons, not_or]; exact ⟨h, h2⟩⟩
        show keyAt _ ((_, _) :: esA es) = _
        unfold keyAt; rw [k, h1]
structure Shape (N : List Nd) (Q : List UInt8 → Prop) : Prop where
  nd : (N.map (·.s)).Nodup
  down : ∀ n ∈ N, ∀ b p v, (b, p, v) ∈ n.es → ∃ c ∈ N, c.s = n.s ++ [b] ∧ c.p = p ∧ c.v = v
  up : ∀ c ∈ N, ∀ u b, c.s = u ++ [b] → ∃ n ∈ N, n.s = u ∧ (b, c.p, c.v) ∈ n.es
  keys : ∀ n ∈ N, (n.es.map (·.1)).Nodup
  all : ∀ u, Q u ↔ ∃ n ∈ N, n.s = u
theorem Shape.one {N : List Nd} {Q : List UInt8 → Prop} (h : Shape N Q) {n c : Nd} (hn : n ∈ N) (hc : c ∈ N) (e : n.s = c.s) : n = c := by
  obtain ⟨i, hi, rfl⟩ := List.getElem_of_mem hn
  obtain ⟨j, hj, rfl⟩ := List.getElem_of_mem hc
  have hil : i < (N.map (·.s)).length := by simpa using hi
  have : i = j := (List.getElem?_inj hil h.nd).1 (by rw [List.getElem?_map, List.getElem?_map, List.getElem?_eq_getElem hi, List.getElem?_eq_getElem hj]; exact congrArg some e)
  subst this; rfl
/-- The pointer back is right. -/
def BkOk (fs : List Bytes) (N : List Nd) (n : Nd) : Prop := ∃ c ∈ N, c.s = lsuf fs n.s.tail ∧ n.bk = some (c.p, c.v)

theorem step_walk {fs : List Bytes} {N : List Nd} (hN : Shape N (isNd fs)) {n : Nd} (hn : n ∈ N) (hb : ∀ m ∈ N, m.s.length ≤ n.s.length → BkOk fs N m) (b : UInt8) :
    HC Try.prog f___find_state__step [.ptr n.p n.v 0, .int .u8 (b.toNat : Int)] (ndsM N) fun r m' => ∃ c ∈ N, c.s = lsuf fs (n.s ++ [b]) ∧ r = .ptr c.p c.v 0 ∧ m' = ndsM N := by
  intro S mf hS
  refine __find_state__step_ok.out rfl ?_ (by simp [__find_state__step_fi])
  unfold vcFun __find_state__step_fi
  dsimp only
  unfold __find_state__step_c
  dsimp only [argF]
  with_reducible (refine c_seq ?_)
  refine c_ops ?_
  refine r_op (o_mov (s_no ?_))
  dsimp only [putF, rd, Frame.get]
  refine r_nil (c_keep ?_)
  dsimp only [List.map]
  dsimp only [putF, rd, Frame.get]
  with_reducible (refine on_n ?_; refine c_block ?_)
  refine c_loop (fun k xs S => ∃ m ∈ N, xs = [.ptr m.p m.v 0] ∧ k = m.s.length ∧ m.s.length ≤ n.s.length ∧ lsuf fs (m.s ++ [b]) = lsuf fs (n.s ++ [b]) ∧ Has S (ndsM N + mf)) n.s.length ⟨n, hn, rfl, rfl, Nat.le_refl _, rfl, hS⟩ ?_
  clear hS
  rintro k xs S hl' ⟨m, hm, rfl, rfl, hle, hsuf, hS0⟩
  dsimp only [zipF, List.map, Frame.get]
  obtain ⟨c, hc, hcs, hcb⟩ := hb m hm hle
  obtain ⟨A, B, hAB⟩ := nd_split hm
  have hS := hS0
  rw [hAB, ndsM_mid] at hS
  unfold ndC at hS
  rw [hcb] at hS
  unfold bkA at hS
  have hk := esA_keys m.es
  rcases es_look m.es b with ⟨j, p, v, g1, g2⟩ | ⟨g1, g2⟩
  · obtain ⟨d, hd, hds, rfl, rfl⟩ := hN.down m hm b p v g2
    with_reducible (refine c_block ?_; refine c_seq ?_; refine c_seq ?_)
    refine c_ops ?_
    refine r_op (o_mov (s_no ?_))
    dsimp only [putF, rd, Frame.get]
    refine r_op (o_nilchk rfl (s_no ?_))
    dsimp only [putF, rd, Frame.get]
    refine r_op (o_faddr rfl (s_no ?_))
    dsimp only [putF, rd, Frame.get]
    simp only [Nat.zero_mul, Nat.mul_zero, Nat.mul_one, Nat.add_zero, Nat.zero_add, Nat.sub_zero, Nat.reduceAdd, Nat.reduceMul]
    refine r_op (o_load hS rfl rfl rfl rfl (s_no ?_))
    dsimp only [putF, rd, Frame.get]
    refine r_op (o_mov (s_no ?_))
    dsimp only [putF, rd, Frame.get]
    refine r_op ?_
    refine o_mlook hS rfl rfl rfl hk ?_; dsimp only [putF, rd, Frame.get]; rw [lookM_some g1]; dsimp only [lookV]
    refine s_no ?_
    refine r_op (o_mov (s_no ?_))
    dsimp only [putF, rd, Frame.get]
    refine r_op (o_extract rfl rfl (s_no ?_))
    dsimp only [putF, rd, Frame.get]
    refine r_op (o_extract rfl rfl (s_no ?_))
    dsimp only [putF, rd, Frame.get]
    refine r_op (o_mov (s_no ?_))
    dsimp only [putF, rd, Frame.get]
    refine r_op (o_mov (s_no ?_))
    dsimp only [putF, rd, Frame.get]
    refine r_nil (c_keep ?_)
    dsimp only [List.map]
    dsimp only [putF, rd, Frame.get]
    with_reducible (refine on_n ?_; refine c_seq ?_)
    refine c_ops ?_
    refine r_op (o_mov (s_no ?_))
    dsimp only [putF, rd, Frame.get]
    refine r_nil (c_keep ?_)
    dsimp only [List.map]
    dsimp only [putF, rd, Frame.get]
    refine c_bool (c := true) rfl (fun _ => ?_) (fun h => by cases h)
    with_reducible (refine c_seq ?_)
    refine c_ops ?_
    refine r_op (o_mov (s_no ?_))
    dsimp only [putF, rd, Frame.get]
    refine r_op (o_mov (s_no ?_))
    dsimp only [putF, rd, Frame.get]
    refine r_nil (c_keep ?_)
    dsimp only [List.map]
    dsimp only [putF, rd, Frame.get]
    with_reducible (refine on_n ?_; refine c_ret ?_; refine on_r ?_; refine ob_r ?_; refine on_r ?_; refine ob_r ?_)
    try dsimp only
    unfold __find_state__step_r
    refine w_tmp (w_nil ?_)
    dsimp only [retV, Frame.get]
    refine ⟨_, ⟨d, hd, ?_, rfl, rfl⟩, hS0⟩
    rw [← hsuf, ← hds, lsuf_self ((hN.all _).2 ⟨d, hd, rfl⟩)]
  · have hno : ¬ isNd fs (m.s ++ [b]) := fun q => by
      obtain ⟨d, hd, hds⟩ := (hN.all _).1 q
      obtain ⟨n2, hn2, e2, h2⟩ := hN.up d hd m.s b hds
      have := hN.one hn2 hm e2
      subst this
      exact g2 (List.mem_map_of_mem (f := (·.1)) h2)
    with_reducible (refine c_block ?_; refine c_seq ?_; refine c_seq ?_)
    refine c_ops ?_
    refine r_op (o_mov (s_no ?_))
    dsimp only [putF, rd, Frame.get]
    refine r_op (o_nilchk rfl (s_no ?_))
    dsimp only [putF, rd, Frame.get]
    refine r_op (o_faddr rfl (s_no ?_))
    dsimp only [putF, rd, Frame.get]
    simp only [Nat.zero_mul, Nat.mul_zero, Nat.mul_one, Nat.add_zero, Nat.zero_add, Nat.sub_zero, Nat.reduceAdd, Nat.reduceMul]
    refine r_op (o_load hS rfl rfl rfl rfl (s_no ?_))
    dsimp only [putF, rd, Frame.get]
    refine r_op (o_mov (s_no ?_))
    dsimp only [putF, rd, Frame.get]
    refine r_op ?_
    refine o_mlook hS rfl rfl rfl hk ?_; dsimp only [putF, rd, Frame.get]; rw [lookM_none g1]; dsimp only [lookV]
    refine s_no ?_
    refine r_op (o_mov (s_no ?_))
    dsimp only [putF, rd, Frame.get]
    refine r_op (o_extract rfl rfl (s_no ?_))
    dsimp only [putF, rd, Frame.get]
    refine r_op (o_extract rfl rfl (s_no ?_))
    dsimp only [putF, rd, Frame.get]
    refine r_op (o_mov (s_no ?_))
    dsimp only [putF, rd, Frame.get]
    refine r_op (o_mov (s_no ?_))
    dsimp only [putF, rd, Frame.get]
    refine r_nil (c_keep ?_)
    dsimp only [List.map]
    dsimp only [putF, rd, Frame.get]
    with_reducible (refine on_n ?_; refine c_seq ?_)
    refine c_ops ?_
    refine r_op (o_mov (s_no ?_))
    dsimp only [putF, rd, Frame.get]
    refine r_nil (c_keep ?_)
    dsimp only [List.map]
    dsimp only [putF, rd, Frame.get]
    refine c_bool (c := false) rfl (fun h => by cases h) (fun _ => ?_)
    have ec := nds_at hS0 hc
    have em := nds_at hS0 hm
    with_reducible (refine c_skip ?_; refine on_n ?_; refine c_seq ?_; refine c_seq ?_)
    refine c_ops ?_
    refine r_op (o_mov (s_no ?_))
    dsimp only [putF, rd, Frame.get]
    refine r_op (o_nilchk rfl (s_no ?_))
    dsimp only [putF, rd, Frame.get]
    refine r_op (o_faddr rfl (s_no ?_))
    dsimp only [putF, rd, Frame.get]
    simp only [Nat.zero_mul, Nat.mul_zero, Nat.mul_one, Nat.add_zero, Nat.zero_add, Nat.sub_zero, Nat.reduceAdd, Nat.reduceMul]
    refine r_op (o_load hS rfl rfl rfl rfl (s_no ?_))
    dsimp only [putF, rd, Frame.get]
    refine r_op (o_mov (s_no ?_))
    dsimp only [putF, rd, Frame.get]
    refine r_op ?_
    refine o_peq rfl rfl ec em ?_
    refine s_no ?_
    dsimp only [putF, rd, Frame.get]
    refine r_nil (c_keep ?_)
    dsimp only [List.map]
    dsimp only [putF, rd, Frame.get]
    with_reducible (refine on_n ?_)
    by_cases hr : m.s = []
    · have hcm : c = m := hN.one hc hm (by rw [hcs, hr]; rfl)
      subst hcm
      refine c_bool (c := true) (by simp [rd, Frame.get]) (fun _ => ?_) (fun h => by cases h)
      with_reducible (refine c_seq ?_)
      refine c_ops ?_
      refine r_op (o_mov (s_no ?_))
      dsimp only [putF, rd, Frame.get]
      refine r_op (o_mov (s_no ?_))
      dsimp only [putF, rd, Frame.get]
      refine r_nil (c_keep ?_)
      dsimp only [List.map]
      dsimp only [putF, rd, Frame.get]
      with_reducible (refine on_n ?_; refine c_ret ?_; refine on_r ?_; refine ob_r ?_; refine on_r ?_; refine ob_r ?_)
      try dsimp only
      unfold __find_state__step_r
      refine w_tmp (w_nil ?_)
      dsimp only [retV, Frame.get]
      refine ⟨_, ⟨c, hc, ?_, rfl, rfl⟩, hS0⟩
      rw [← hsuf, hr]
      rw [hr] at hno
      show [] = lsuf fs [b]
      rw [lsuf_cons hno]; rfl
    · obtain ⟨a, x, hx⟩ : ∃ a x, m.s = a :: x := by
        cases h : m.s with
        | nil => exact absurd h hr
        | cons a x => exact ⟨a, x, rfl⟩
      have hne : c.p ≠ m.p := fun e => by
        have := nds_inj hS0 hc hm e
        subst this
        have h1 := lsuf_len fs x
        have := congrArg List.length hcs
        rw [hx] at this
        simp only [List.length_cons, List.tail_cons] at this; omega
      refine c_bool (c := false) (by simp [rd, Frame.get, hne]) (fun h => by cases h) (fun _ => ?_)
      with_reducible (refine c_skip ?_; refine on_n ?_)
      refine c_ops ?_
      refine r_op (o_mov (s_no ?_))
      dsimp only [putF, rd, Frame.get]
      refine r_op (o_nilchk rfl (s_no ?_))
      dsimp only [putF, rd, Frame.get]
      refine r_op (o_faddr rfl (s_no ?_))
      dsimp only [putF, rd, Frame.get]
      simp only [Nat.zero_mul, Nat.mul_zero, Nat.mul_one, Nat.add_zero, Nat.zero_add, Nat.sub_zero, Nat.reduceAdd, Nat.reduceMul]
      refine r_op (o_load hS rfl rfl rfl rfl (s_no ?_))
      dsimp only [putF, rd, Frame.get]
      refine r_op (o_mov (s_no ?_))
      dsimp only [putF, rd, Frame.get]
      refine r_nil (c_keep ?_)
      dsimp only [List.map]
      dsimp only [putF, rd, Frame.get]
      with_reducible (refine ob_n ?_; refine on_n ?_)
      have hlc : c.s.length < m.s.length := by
        have h1 := lsuf_len fs x
        rw [hcs, hx]; simp only [List.length_cons, List.tail_cons]; omega
      refine ⟨c.s.length, hlc, c, hc, rfl, rfl, by omega, ?_, hS0⟩
      rw [← hsuf, hcs, hx, List.tail_cons, lsuf_snoc]
      rw [hx] at hno
      have : ¬ isNd fs (a :: (x ++ [b])) := hno
      exact (lsuf_cons this).symm
end Go.Proofs.Ytfelfimcnidplaa.F
