/- A machine of many finds: made. Conditions: none. -/
import Derived.Test.YtfelfimcnidplaaF2b
set_option linter.unusedVariables false
set_option linter.unusedSimpArgs false
set_option maxRecDepth 100000
namespace Go.Proofs.Ytfelfimcnidplaa.F
open Go.Vc Go.Fu
abbrev strsF (fs : List Bytes) : List AVal := fs.map AVal.str
theorem strF_at {fs : List Bytes} {i : Nat} {s : Bytes} (h : fs[i]? = some s) : takeN 1 ((strsF fs).drop (i * 1)) = some [.str s] := by
  have hi := (List.getElem?_eq_some_iff.1 h).1
  rw [Nat.mul_one, List.drop_eq_getElem_cons (by simpa using hi)]
  simp [takeN, (List.getElem?_eq_some_iff.1 h).2]
theorem fdOf_new {fs : List Bytes} (hn : fs.Nodup) {i : Nat} {s : Bytes} (hs : fs[i]? = some s) (u : Bytes) : fdOf fs (i + 1) u = if u = s then (i : Int) else fdOf fs i u := by
  have hi := (List.getElem?_eq_some_iff.1 hs).1
  have hg := (List.getElem?_eq_some_iff.1 hs).2
  unfold fdOf
  rw [List.take_add_one, hs]
  by_cases h : u = s
  · subst h
    rw [if_pos (by simp), if_pos rfl, ← hg, idx_of hn hi]
  · rw [if_neg h]
    have : u ∈ fs.take i ++ (some s).toList ↔ u ∈ fs.take i := by simp [h]
    simp only [this]
set_option maxHeartbeats 4000000 in

theorem machine_walk {fs : List Bytes} (hn : fs.Nodup) (hl : fs.length ≤ 20) (hf : ∀ f ∈ fs, f.length ≤ 20 ∧ f ≠ []) :
    HC Try.prog f_find_machine [.ros fs.length (strsF fs)] HM.nil fun r m' => ∃ N X, Shape N (isNd fs) ∧ (∀ n ∈ N, n.fd = fdOf fs fs.length n.s) ∧ (∀ n ∈ N, BkOk fs N n) ∧ (∃ n ∈ N, n.s = [] ∧ r = .ptr n.p n.v 0) ∧ m' = ndsM N + X := by
  intro S mf hS
  rw [HM.nil_add] at hS
  refine find_machine_ok.out rfl ?_ (by simp [find_machine_fi])
  unfold vcFun find_machine_fi
  dsimp only
  unfold find_machine_c
  dsimp only [argF]
  with_reducible (refine c_seq ?_)
  refine c_ops ?_
  refine r_op (o_mov (s_no ?_))
  dsimp only [putF, rd, Frame.get]
  refine r_nil (c_keep ?_)
  dsimp only [List.map]
  dsimp only [putF, rd, Frame.get]
  with_reducible (refine on_n ?_; refine c_seq ?_)
  refine c_ops ?_
  refine r_op (o_mkmap hS fun v16 l16 S hS => s_no ?_)
  dsimp only [putF, rd, Frame.get]
  refine r_op (o_build rfl (s_no ?_))
  dsimp only [putF, rd, Frame.get, setCells, over]
  refine r_op (o_box hS rfl fun v18 l18 S hS => s_no ?_)
  dsimp only [putF, rd, Frame.get]
  refine r_op (o_mov (s_no ?_))
  dsimp only [putF, rd, Frame.get]
  refine r_nil (c_keep ?_)
  dsimp only [List.map]
  dsimp only [putF, rd, Frame.get]
  with_reducible (refine on_n ?_; refine c_seq ?_)
  refine c_ops ?_
  refine r_op (o_mov (s_no ?_))
  dsimp only [putF, rd, Frame.get]
  refine r_op (o_mov (s_no ?_))
  dsimp only [putF, rd, Frame.get]
  refine r_op (o_nilchk rfl (s_no ?_))
  dsimp only [putF, rd, Frame.get]
  refine r_op (o_faddr rfl (s_no ?_))
  dsimp only [putF, rd, Frame.get]
  simp only [Nat.zero_mul, Nat.mul_zero, Nat.mul_one, Nat.add_zero, Nat.zero_add, Nat.sub_zero, Nat.reduceAdd, Nat.reduceMul]
  refine r_op (o_store hS rfl rfl rfl rfl (by simp) fun S hS => s_no ?_)
  dsimp only [putF, rd, Frame.get]
  dsimp only [putF, rd, Frame.get, setCells, over] at hS
  refine r_nil (c_keep ?_)
  dsimp only [List.map]
  dsimp only [putF, rd, Frame.get]
  with_reducible (refine on_n ?_; refine c_seq ?_; refine c_seq ?_)
  refine c_ops ?_
  refine r_op (o_mov (s_no ?_))
  dsimp only [putF, rd, Frame.get]
  refine r_op (o_len rfl (s_no ?_))
  dsimp only [putF, rd, Frame.get]
  refine r_op (o_mov (s_no ?_))
  dsimp only [putF, rd, Frame.get]
  refine r_nil (c_keep ?_)
  dsimp only [List.map]
  dsimp only [putF, rd, Frame.get]
  with_reducible (refine on_n ?_; refine c_block ?_)
  have hS := hS.eq (m' := ndsM [⟨[], l18, v18, l16, v16, [], some (l18, v18), -1⟩] + (HM.nil + mf)) (by show _ = ((pt l18 (.row v18 0 [.map l16 v16, .ptr l18 v18 0, .int .i64 (-1), .int .i64 0]) + pt l16 (.mapo v16 [])) + HM.nil) + (HM.nil + mf); rw [HM.add_nil, HM.nil_add]; ac_rfl)
  refine c_loop (fun n xs S => ∃ (i : Nat) (N : List Nd), xs = [.int .i64 (i : Int)] ∧ i ≤ fs.length ∧ n = fs.length - i ∧ Grown fs N (isNd (fs.take i)) (fdOf fs i) l18 v18 ∧ N.length ≤ 1 + 20 * i ∧ Has S (ndsM N + (HM.nil + mf))) fs.length ⟨0, _, rfl, Nat.zero_le _, rfl, ?g0, by simp, hS⟩ ?_
  case g0 =>
    refine ⟨⟨by simp, fun n hn b p v hb => ?_, fun c hc u b hu => ?_, fun n hn => ?_, fun u => ?_⟩, fun n hn => ?_, fun n hn h0 => ?_, fun n hn h0 => ?_⟩
    all_goals try (simp only [List.mem_singleton] at hn; subst hn)
    · cases hb
    · simp only [List.mem_singleton] at hc; subst hc
      simp at hu
    · exact List.nodup_nil
    · constructor
      · rintro (h | ⟨f, hf, _⟩)
        · exact ⟨_, List.mem_singleton.2 rfl, h.symm⟩
        · simp at hf
      · rintro ⟨n, hn, e⟩
        simp only [List.mem_singleton] at hn; subst hn
        exact .inl e.symm
    · simp [fdOf]
    · exact ⟨rfl, rfl, rfl⟩
    · exact absurd rfl h0
  clear hS
  rintro n xs S hl' ⟨i, N, rfl, hi, rfl, hG, hNl, hS⟩
  dsimp only [zipF, List.map, Frame.get]
  with_reducible (refine c_seq ?_)
  refine c_ops ?_
  refine r_op (o_bin rfl (by first | trivial | (unfold inI64; omega)) (s_no ?_))
  dsimp only [putF, rd, Frame.get]
  refine r_nil (c_keep ?_)
  dsimp only [List.map]
  dsimp only [putF, rd, Frame.get]
  with_reducible (refine on_n ?_; refine c_seq ?_)
  refine c_dec rfl (fun hlt => ?_) (fun hlt => ?_)
  · have hlt : i < fs.length := by omega
    obtain ⟨s, hs⟩ : ∃ s, fs[i]? = some s := ⟨_, List.getElem?_eq_getElem hlt⟩
    have ts := strF_at hs
    have hsl := (hf s (List.mem_of_getElem? hs)).1
    obtain ⟨r0, hr0, er0⟩ := (hG.sh.all []).1 (.inl rfl)
    obtain ⟨_, ep, ev⟩ := hG.bk0 r0 hr0 er0
    with_reducible (refine c_skip ?_; refine on_n ?_; refine c_seq ?_; refine c_block ?_; refine c_seq ?_)
    refine c_ops ?_
    refine r_op (o_mov (s_no ?_))
    dsimp only [putF, rd, Frame.get]
    refine r_op (o_iaddrR rfl rfl (by omega) (by assumption) (s_no ?_))
    dsimp only [putF, rd, Frame.get]
    refine r_op (o_loadR rfl rfl rfl (s_no ?_))
    dsimp only [putF, rd, Frame.get]
    refine r_op (o_mov (s_no ?_))
    dsimp only [putF, rd, Frame.get]
    refine r_op (o_mov (s_no ?_))
    dsimp only [putF, rd, Frame.get]
    refine r_nil (c_keep ?_)
    dsimp only [List.map]
    dsimp only [putF, rd, Frame.get]
    with_reducible (refine on_n ?_; refine c_seq ?_)
    refine c_ops ?_
    refine r_op (o_mov (s_no ?_))
    dsimp only [putF, rd, Frame.get]
    refine r_op (o_mov (s_no ?_))
    dsimp only [putF, rd, Frame.get]
    refine r_nil (c_keep ?_)
    dsimp only [List.map]
    dsimp only [putF, rd, Frame.get]
    with_reducible (refine on_n ?_; refine c_seq ?_; refine c_seq ?_)
    refine c_ops ?_
    refine r_op (o_mov (s_no ?_))
    dsimp only [putF, rd, Frame.get]
    refine r_op (o_len rfl (s_no ?_))
    dsimp only [putF, rd, Frame.get]
    refine r_op (o_mov (s_no ?_))
    dsimp only [putF, rd, Frame.get]
    refine r_nil (c_keep ?_)
    dsimp only [List.map]
    dsimp only [putF, rd, Frame.get]
    with_reducible (refine on_n ?_; refine c_block ?_)
    refine c_loop (fun n xs S => ∃ (k : Nat) (N : List Nd) (m : Nd), xs = [.ptr m.p m.v 0, .int .i64 (k : Int)] ∧ k ≤ s.length ∧ n = s.length - k ∧ m ∈ N ∧ m.s = s.take k ∧ Grown fs N (fun u => isNd (fs.take i) u ∨ u <+: s.take k) (fdOf fs i) l18 v18 ∧ N.length ≤ 1 + 20 * i + k ∧ Has S (ndsM N + (HM.nil + mf))) s.length ⟨0, N, r0, by rw [ep, ev]; rfl, Nat.zero_le _, rfl, hr0, er0, ⟨⟨hG.sh.nd, hG.sh.down, hG.sh.up, hG.sh.keys, fun u => by
      rw [← hG.sh.all u]
      constructor
      · rintro (h | h)
        · exact h
        · exact .inl (by simpa using h)
      · exact .inl⟩, hG.fd, hG.bk0, hG.bk1⟩, by omega, hS⟩ ?_
    clear hS hG hNl hr0
    rintro n xs S hl2 ⟨k, N, m, rfl, hk, rfl, hm, hms, hG, hNl, hS⟩
    dsimp only [zipF, List.map, Frame.get]
    with_reducible (refine c_seq ?_)
    refine c_ops ?_
    refine r_op (o_bin rfl (by first | trivial | (unfold inI64; omega)) (s_no ?_))
    dsimp only [putF, rd, Frame.get]
    refine r_nil (c_keep ?_)
    dsimp only [List.map]
    dsimp only [putF, rd, Frame.get]
    with_reducible (refine on_n ?_; refine c_seq ?_)
    refine c_dec rfl (fun hklt => ?_) (fun hklt => ?_)
    · have hklt : k < s.length := by omega
      have hsk : s[k]? = some s[k] := List.getElem?_eq_getElem hklt
      obtain ⟨A, B, rfl⟩ := nd_split hm
      rw [ndsM_mid] at hS
      unfold ndC at hS
      have hkeys := esA_keys m.es
      have hpt := pre_take s hklt
      with_reducible (refine c_skip ?_; refine on_n ?_; refine c_seq ?_; refine c_block ?_; refine c_seq ?_)
      refine c_ops ?_
      refine r_op (o_mov (s_no ?_))
      dsimp only [putF, rd, Frame.get]
      refine r_op (o_mov (s_no ?_))
      dsimp only [putF, rd, Frame.get]
      refine r_nil (c_keep ?_)
      dsimp only [List.map]
      dsimp only [putF, rd, Frame.get]
      with_reducible (refine on_n ?_; refine c_seq ?_)
      rcases es_look m.es s[k] with ⟨j, p, v, g1, g2⟩ | ⟨g1, g2⟩
      · obtain ⟨d, hd, hds, rfl, rfl⟩ := hG.sh.down m hm _ p v g2
        refine c_opsD0 hS fun S hS => ?_
        refine d_zero ?_
        refine r_op (o_mov (s_no ?_))
        dsimp only [putF, rd, Frame.get]
        refine r_op (o_nilchk rfl (s_no ?_))
        dsimp only [putF, rd, Frame.get]
        refine r_op (o_faddr rfl (s_no ?_))
        dsimp only [putF, rd, Frame.get]
        simp only [Nat.zero_mul, Nat.mul_zero, Nat.mul_one, Nat.add_zero, Nat.zero_add, Nat.sub_zero, Nat.reduceAdd, Nat.reduceMul]
        refine r_op (o_load hS rfl rfl rfl rfl (s_no ?_))
        dsimp only [putF, rd, Frame.get]
        refine r_op (o_mov (s_no ?_))
        dsimp only [putF, rd, Frame.get]
        refine r_op (o_mov (s_no ?_))
        dsimp only [putF, rd, Frame.get]
        refine r_op (o_indexS rfl rfl (by assumption) (s_no ?_))
        dsimp only [putF, rd, Frame.get]
        refine r_op ?_
        refine o_mlook hS rfl rfl rfl hkeys ?_; dsimp only [putF, rd, Frame.get]; rw [lookM_some g1]; dsimp only [lookV]
        refine s_no ?_
        refine r_op (o_mov (s_no ?_))
        dsimp only [putF, rd, Frame.get]
        refine r_op (o_extract rfl rfl (s_no ?_))
        dsimp only [putF, rd, Frame.get]
        refine r_op (o_extract rfl rfl (s_no ?_))
        dsimp only [putF, rd, Frame.get]
        refine r_op (o_mov (s_no ?_))
        dsimp only [putF, rd, Frame.get]
        refine r_op (o_mov (s_no ?_))
        dsimp only [putF, rd, Frame.get]
        refine r_nil (c_keep ?_)
        dsimp only [List.map]
        dsimp only [putF, rd, Frame.get]
        with_reducible (refine on_n ?_)
        refine c_join fun K1 hK1 => ?_
        with_reducible (refine c_seq ?_)
        refine c_ops ?_
        refine r_op (o_mov (s_no ?_))
        dsimp only [putF, rd, Frame.get]
        refine r_op (o_not rfl (s_no ?_))
        dsimp only [putF, rd, Frame.get]
        refine r_nil (c_keep ?_)
        dsimp only [List.map]
        dsimp only [putF, rd, Frame.get]
        refine c_bool (c := !true) rfl (fun h => by cases h) (fun _ => ?_)
        with_reducible (refine c_skip ?_; refine on_n ?_)
        refine hK1 _ _ rfl ?_
        dsimp only [zipF, List.map, Frame.get]
        refine c_ops ?_
        refine r_op (o_mov (s_no ?_))
        dsimp only [putF, rd, Frame.get]
        refine r_op (o_mov (s_no ?_))
        dsimp only [putF, rd, Frame.get]
        refine r_nil (c_keep ?_)
        dsimp only [List.map]
        dsimp only [putF, rd, Frame.get]
        with_reducible (refine ob_n ?_; refine on_n ?_)
        refine c_ops ?_
        refine r_op (o_bin rfl (by first | trivial | (unfold inI64; omega)) (s_no ?_))
        dsimp only [putF, rd, Frame.get]
        refine r_op (o_mov (s_no ?_))
        dsimp only [putF, rd, Frame.get]
        refine r_nil (c_keep ?_)
        dsimp only [List.map]
        dsimp only [putF, rd, Frame.get]
        with_reducible (refine on_n ?_)
        refine ⟨s.length - (k + 1), by omega, k + 1, A ++ m :: B, d, rfl, by omega, rfl, hd, by rw [hds, hms, List.take_add_one, hsk]; rfl, ⟨⟨hG.sh.nd, hG.sh.down, hG.sh.up, hG.sh.keys, fun u => ?_⟩, hG.fd, hG.bk0, hG.bk1⟩, by omega, hS.eq (by rw [ndsM_mid]; rfl)⟩
        rw [← hG.sh.all u, hpt]
        constructor
        · rintro (h | h | h)
          · exact .inl h
          · exact .inr h
          · subst h
            rw [hG.sh.all]; exact ⟨d, hd, by rw [hds, hms]⟩
        · rintro (h | h)
          · exact .inl h
          · exact .inr (.inl h)
      · refine c_opsD0 hS fun S hS => ?_
        refine d_zero ?_
        refine r_op (o_mov (s_no ?_))
        dsimp only [putF, rd, Frame.get]
        refine r_op (o_nilchk rfl (s_no ?_))
        dsimp only [putF, rd, Frame.get]
        refine r_op (o_faddr rfl (s_no ?_))
        dsimp only [putF, rd, Frame.get]
        simp only [Nat.zero_mul, Nat.mul_zero, Nat.mul_one, Nat.add_zero, Nat.zero_add, Nat.sub_zero, Nat.reduceAdd, Nat.reduceMul]
        refine r_op (o_load hS rfl rfl rfl rfl (s_no ?_))
        dsimp only [putF, rd, Frame.get]
        refine r_op (o_mov (s_no ?_))
        dsimp only [putF, rd, Frame.get]
        refine r_op (o_mov (s_no ?_))
        dsimp only [putF, rd, Frame.get]
        refine r_op (o_indexS rfl rfl (by assumption) (s_no ?_))
        dsimp only [putF, rd, Frame.get]
        refine r_op ?_
        refine o_mlook hS rfl rfl rfl hkeys ?_; dsimp only [putF, rd, Frame.get]; rw [lookM_none g1]; dsimp only [lookV]
        refine s_no ?_
        refine r_op (o_mov (s_no ?_))
        dsimp only [putF, rd, Frame.get]
        refine r_op (o_extract rfl rfl (s_no ?_))
        dsimp only [putF, rd, Frame.get]
        refine r_op (o_extract rfl rfl (s_no ?_))
        dsimp only [putF, rd, Frame.get]
        refine r_op (o_mov (s_no ?_))
        dsimp only [putF, rd, Frame.get]
        refine r_op (o_mov (s_no ?_))
        dsimp only [putF, rd, Frame.get]
        refine r_nil (c_keep ?_)
        dsimp only [List.map]
        dsimp only [putF, rd, Frame.get]
        with_reducible (refine on_n ?_)
        refine c_join fun K1 hK1 => ?_
        with_reducible (refine c_seq ?_)
        refine c_ops ?_
        refine r_op (o_mov (s_no ?_))
        dsimp only [putF, rd, Frame.get]
        refine r_op (o_not rfl (s_no ?_))
        dsimp only [putF, rd, Frame.get]
        refine r_nil (c_keep ?_)
        dsimp only [List.map]
        dsimp only [putF, rd, Frame.get]
        refine c_bool (c := !false) rfl (fun _ => ?_) (fun h => by cases h)
        with_reducible (refine c_seq ?_)
        have hmk : (m.s.length : Int) = k := by rw [hms, List.length_take]; omega
        refine c_ops ?_
        refine r_op (o_mkmap hS fun v49 l49 S hS => s_no ?_)
        dsimp only [putF, rd, Frame.get]
        refine r_op (o_mov (s_no ?_))
        dsimp only [putF, rd, Frame.get]
        refine r_op (o_nilchk rfl (s_no ?_))
        dsimp only [putF, rd, Frame.get]
        refine r_op (o_faddr rfl (s_no ?_))
        dsimp only [putF, rd, Frame.get]
        simp only [Nat.zero_mul, Nat.mul_zero, Nat.mul_one, Nat.add_zero, Nat.zero_add, Nat.sub_zero, Nat.reduceAdd, Nat.reduceMul]
        refine r_op (o_load hS rfl rfl rfl rfl (s_no ?_))
        dsimp only [putF, rd, Frame.get]
        refine r_op (o_bin rfl (by first | trivial | (unfold inI64; omega)) (s_no ?_))
        dsimp only [putF, rd, Frame.get]
        refine r_op (o_build rfl (s_no ?_))
        dsimp only [putF, rd, Frame.get, setCells, over]
        refine r_op (o_box hS rfl fun v56 l56 S hS => s_no ?_)
        dsimp only [putF, rd, Frame.get]
        refine r_op (o_mov (s_no ?_))
        dsimp only [putF, rd, Frame.get]
        refine r_nil (c_keep ?_)
        dsimp only [List.map]
        dsimp only [putF, rd, Frame.get]
        with_reducible (refine on_n ?_)
        refine c_opsD0 hS fun S hS => ?_
        refine d_zero ?_
        refine r_op (o_mov (s_no ?_))
        dsimp only [putF, rd, Frame.get]
        refine r_op (o_nilchk rfl (s_no ?_))
        dsimp only [putF, rd, Frame.get]
        refine r_op (o_faddr rfl (s_no ?_))
        dsimp only [putF, rd, Frame.get]
        simp only [Nat.zero_mul, Nat.mul_zero, Nat.mul_one, Nat.add_zero, Nat.zero_add, Nat.sub_zero, Nat.reduceAdd, Nat.reduceMul]
        refine r_op (o_load hS rfl rfl rfl rfl (s_no ?_))
        dsimp only [putF, rd, Frame.get]
        refine r_op (o_mov (s_no ?_))
        dsimp only [putF, rd, Frame.get]
        refine r_op (o_mov (s_no ?_))
        dsimp only [putF, rd, Frame.get]
        refine r_op (o_indexS rfl rfl (by assumption) (s_no ?_))
        dsimp only [putF, rd, Frame.get]
        refine r_op (o_mov (s_no ?_))
        dsimp only [putF, rd, Frame.get]
        refine r_op (o_mupd hS rfl rfl rfl (by assumption) fun S hS => s_no ?_)
        dsimp only [putF, rd, Frame.get]
        dsimp only [putF, rd, Frame.get, setCells, over] at hS
        refine r_nil (c_keep ?_)
        dsimp only [List.map]
        dsimp only [putF, rd, Frame.get]
        with_reducible (refine on_n ?_)
        rw [keyPut_none g1] at hS
        refine hK1 _ _ rfl ?_
        dsimp only [zipF, List.map, Frame.get]
        refine c_ops ?_
        refine r_op (o_mov (s_no ?_))
        dsimp only [putF, rd, Frame.get]
        refine r_op (o_mov (s_no ?_))
        dsimp only [putF, rd, Frame.get]
        refine r_nil (c_keep ?_)
        dsimp only [List.map]
        dsimp only [putF, rd, Frame.get]
        with_reducible (refine ob_n ?_; refine on_n ?_)
        refine c_ops ?_
        refine r_op (o_bin rfl (by first | trivial | (unfold inI64; omega)) (s_no ?_))
        dsimp only [putF, rd, Frame.get]
        refine r_op (o_mov (s_no ?_))
        dsimp only [putF, rd, Frame.get]
        refine r_nil (c_keep ?_)
        dsimp only [List.map]
        dsimp only [putF, rd, Frame.get]
        with_reducible (refine on_n ?_)
        have hno : ¬ (isNd (fs.take i) (m.s ++ [s[k]]) ∨ (m.s ++ [s[k]]) <+: s.take k) := fun q => by
          obtain ⟨d, hd, hds⟩ := (hG.sh.all _).1 q
          obtain ⟨n2, hn2, e2, h2⟩ := hG.sh.up d hd m.s s[k] hds
          have := hG.sh.one hn2 hm e2
          subst this
          exact g2 (List.mem_map_of_mem (f := (·.1)) h2)
        have hnew : m.s ++ [s[k]] = s.take (k + 1) := by rw [hms, List.take_add_one, hsk]; rfl
        have hsh := hG.sh.more (c := ⟨m.s ++ [s[k]], l56, v56, l49, v49, [], none, -1⟩) (b := s[k]) (Q' := fun u => isNd (fs.take i) u ∨ u <+: s.take (k + 1)) hno rfl rfl (fun u => by
          rw [hpt u, hms]
          constructor
          · rintro (h | h | h)
            · exact .inl (.inl h)
            · exact .inl (.inr h)
            · exact .inr h
          · rintro ((h | h) | h)
            · exact .inl h
            · exact .inr (.inl h)
            · exact .inr (.inr h))
        refine ⟨s.length - (k + 1), by omega, k + 1, _, ⟨m.s ++ [s[k]], l56, v56, l49, v49, [], none, -1⟩, rfl, by omega, rfl, by simp, hnew, ⟨hsh, fun x hx => ?_, fun x hx h0 => ?_, fun x hx h0 => ?_⟩, by simp only [List.length_append, List.length_cons, List.length_nil] at hNl ⊢; omega, hS.eq ?_⟩
        all_goals try (simp only [List.mem_append, List.mem_cons, List.not_mem_nil, or_false] at hx)
        · rcases hx with hx | rfl | hx | rfl
          · exact hG.fd x (by simp [hx])
          · exact hG.fd m (by simp)
          · exact hG.fd x (by simp [hx])
          · show (-1 : Int) = fdOf fs i (m.s ++ [s[k]])
            unfold fdOf
            rw [if_neg (fun q => hno (.inl (isNd_mem q)))]
        · rcases hx with hx | rfl | hx | rfl
          · exact hG.bk0 x (by simp [hx]) h0
          · exact hG.bk0 m (by simp) h0
          · exact hG.bk0 x (by simp [hx]) h0
          · simp at h0
        · rcases hx with hx | rfl | hx | rfl
          · exact hG.bk1 x (by simp [hx]) h0
          · exact hG.bk1 m (by simp) h0
          · exact hG.bk1 x (by simp [hx]) h0
          · rfl
        · rw [ndsM_mid, ndsM_append]
          show _ = pt m.p (.row m.v 0 (ndC { m with es := m.es ++ [(s[k], l56, v56)] })) + (pt m.lm (.mapo m.vm (esA (m.es ++ [(s[k], l56, v56)]))) + (ndsM A + (ndsM B + ((pt l56 (.row v56 0 [.map l49 v49, .nilp, .int .i64 (-1), .int .i64 ((m.s ++ [s[k]]).length : Int)]) + pt l49 (.mapo v49 [])) + HM.nil)))) + _
          have e1 : ((m.s ++ [s[k]]).length : Int) = (m.s.length : Int) + 1 := by simp
          have e2 : esA (m.es ++ [(s[k], l56, v56)]) = esA m.es ++ [(.int .u8 (s[k].toNat : Int), .ptr l56 v56 0)] := by unfold esA; simp
          rw [e1, e2, HM.add_nil]
          unfold ndC
          ac_rfl
    · obtain rfl : k = s.length := by omega
      rw [List.take_length] at hms
      obtain ⟨A, B, rfl⟩ := nd_split hm
      rw [ndsM_mid] at hS
      unfold ndC at hS
      with_reducible (refine c_exit ?_; refine on_e ?_; refine on_e ?_; refine ob_e ?_; refine on_n ?_)
      refine c_ops ?_
      refine r_op (o_mov (s_no ?_))
      dsimp only [putF, rd, Frame.get]
      refine r_op (o_mov (s_no ?_))
      dsimp only [putF, rd, Frame.get]
      refine r_op (o_nilchk rfl (s_no ?_))
      dsimp only [putF, rd, Frame.get]
      refine r_op (o_faddr rfl (s_no ?_))
      dsimp only [putF, rd, Frame.get]
      simp only [Nat.zero_mul, Nat.mul_zero, Nat.mul_one, Nat.add_zero, Nat.zero_add, Nat.sub_zero, Nat.reduceAdd, Nat.reduceMul]
      refine r_op (o_store hS rfl rfl rfl rfl (by simp) fun S hS => s_no ?_)
      dsimp only [putF, rd, Frame.get]
      dsimp only [putF, rd, Frame.get, setCells, over] at hS
      refine r_nil (c_keep ?_)
      dsimp only [List.map]
      dsimp only [putF, rd, Frame.get]
      with_reducible (refine ob_n ?_; refine on_n ?_)
      refine c_ops ?_
      refine r_op (o_bin rfl (by first | trivial | (unfold inI64; omega)) (s_no ?_))
      dsimp only [putF, rd, Frame.get]
      refine r_op (o_mov (s_no ?_))
      dsimp only [putF, rd, Frame.get]
      refine r_nil (c_keep ?_)
      dsimp only [List.map]
      dsimp only [putF, rd, Frame.get]
      with_reducible (refine on_n ?_)
      have hsk : (A ++ { m with fd := (i : Int) } :: B).map sk = (A ++ m :: B).map sk := by simp [sk]
      have hone : ∀ x ∈ A ++ B, x.s ≠ s := fun x hx e => by
        have nd := hG.sh.nd
        rw [List.map_append, List.map_cons] at nd
        have h1 := List.nodup_append.1 nd
        rcases List.mem_append.1 hx with hx | hx
        · exact h1.2.2 x.s (List.mem_map_of_mem hx) m.s (by simp) (by rw [e, hms])
        · have := (List.nodup_cons.1 h1.2.1).1
          exact this (by rw [hms, ← e]; exact List.mem_map_of_mem hx)
      refine ⟨fs.length - (i + 1), by omega, i + 1, A ++ { m with fd := (i : Int) } :: B, rfl, by omega, rfl, ⟨?_, fun x hx => ?_, fun x hx h0 => ?_, fun x hx h0 => ?_⟩, by simp only [List.length_append, List.length_cons] at hNl ⊢; omega, hS.eq ?_⟩
      · have h1 := hG.sh.sk hsk
        exact ⟨h1.nd, h1.down, h1.up, h1.keys, fun u => by rw [← h1.all u, nd_take fs hs, List.take_length]⟩
      all_goals try (simp only [List.mem_append, List.mem_cons] at hx)
      · rw [fdOf_new hn hs]
        rcases hx with hx | rfl | hx
        · rw [if_neg (hone x (by simp [hx]))]; exact hG.fd x (by simp [hx])
        · rw [if_pos hms]
        · rw [if_neg (hone x (by simp [hx]))]; exact hG.fd x (by simp [hx])
      · rcases hx with hx | rfl | hx
        · exact hG.bk0 x (by simp [hx]) h0
        · exact hG.bk0 m (by simp) h0
        · exact hG.bk0 x (by simp [hx]) h0
      · rcases hx with hx | rfl | hx
        · exact hG.bk1 x (by simp [hx]) h0
        · exact hG.bk1 m (by simp) h0
        · exact hG.bk1 x (by simp [hx]) h0
      · rw [ndsM_mid]
        unfold ndC
        rfl
  obtain rfl : i = fs.length := by omega
  rw [List.take_length] at hG
  have hpre : ∀ u b, isNd fs (u ++ [b]) → isNd fs u := fun u b h => isNd_pre h (List.prefix_append _ _)
  have hpre2 : ∀ u v, isNd fs (u ++ v) → isNd fs u := fun u v h => isNd_pre h (List.prefix_append _ _)
  have h20 : ∀ u, isNd fs u → u.length ≤ 20 := fun u hu => by
    rcases hu with h | ⟨f, hfm, h⟩
    · rw [h]; simp
    · have := h.length_le; have := (hf f hfm).1; omega
  have hsh := hG.sh
  obtain ⟨β0, hβ0⟩ : ∃ β0 : Bk, β0 = fun u => if u = [] then some (l18, v18) else none := ⟨_, rfl⟩
  have hNB : setB N β0 = N := setB_same fun n hn => by
    subst hβ0
    by_cases h : n.s = []
    · rw [(hG.bk0 n hn h).1]; simp [h]
    · rw [hG.bk1 n hn h]; simp [h]
  obtain ⟨βs, hβs⟩ : ∃ βs : Bk, βs = fun u => some (plOf N (lsuf fs u.tail)) := ⟨_, rfl⟩
  obtain ⟨r0, hr0, er0⟩ := (hsh.all []).1 (.inl rfl)
  obtain ⟨_, ep0, ev0⟩ := hG.bk0 r0 hr0 er0
  have hpl0 : plOf N [] = (l18, v18) := by rw [← er0, plOf_of hsh hr0, ep0, ev0]
  rw [← hNB] at hS
  with_reducible (refine c_exit ?_; refine on_e ?_; refine on_e ?_; refine ob_e ?_; refine on_n ?_; refine c_seq ?_)
  refine c_ops ?_
  refine r_op (o_mov (s_no ?_))
  dsimp only [putF, rd, Frame.get]
  refine r_op (o_bsliceW hS rfl fun v73 l73 S hS => s_no ?_)
  dsimp only [putF, rd, Frame.get, setCells, over]
  dsimp only [putF, rd, Frame.get, setCells, over] at hS
  refine r_op (o_mov (s_no ?_))
  dsimp only [putF, rd, Frame.get]
  refine r_nil (c_keep ?_)
  dsimp only [List.map]
  dsimp only [putF, rd, Frame.get]
  with_reducible (refine on_n ?_; refine c_seq ?_; refine c_block ?_)
  refine c_loop (fun k xs S => ∃ (d : Nat) (L : List Bytes) (β : Bk) (p v : Nat) (X : HM), xs = [.sl p v 0 L.length] ∧ k = 22 - d ∧ (∀ u ∈ L, isNd fs u ∧ u.length = d) ∧ (∀ u, isNd fs u → u.length = d → u ∈ L) ∧ L.Nodup ∧ (∀ u, isNd fs u → u.length ≤ d → β u = βs u) ∧ Has S (ndsM (setB N β) + (pt p (.row v 1 (lvC N L)) + (X + mf)))) 22 ⟨0, [[]], β0, l73, v73, HM.nil, rfl, rfl, fun u hu => by simp only [List.mem_singleton] at hu; subst hu; exact ⟨.inl rfl, rfl⟩, fun u _ hu => by simp [List.length_eq_zero_iff.1 hu], by simp, fun u _ hu => by
    have : u = [] := List.length_eq_zero_iff.1 (by omega)
    subst this
    rw [hβ0, hβs]
    show some (l18, v18) = some (plOf N [])
    rw [hpl0], hS.eq (by
      show _ = _ + (pt l73 (.row v73 1 [.ptr (plOf N []).1 (plOf N []).2 0]) + _)
      rw [hpl0]; ac_rfl)⟩ ?_
  clear hS
  rintro k xs S hl3 ⟨d, L, β, p, v, X, rfl, rfl, hL1, hL2, hL3, hβ, hS⟩
  dsimp only [zipF, List.map, Frame.get]
  with_reducible (refine c_seq ?_; refine c_seq ?_)
  refine c_ops ?_
  refine r_op (o_mov (s_no ?_))
  dsimp only [putF, rd, Frame.get]
  refine r_op (o_len rfl (s_no ?_))
  dsimp only [putF, rd, Frame.get]
  refine r_op (o_bin rfl (by first | trivial | (unfold inI64; omega)) (s_no ?_))
  dsimp only [putF, rd, Frame.get]
  refine r_nil (c_keep ?_)
  dsimp only [List.map]
  dsimp only [putF, rd, Frame.get]
  with_reducible (refine on_n ?_)
  refine c_dec rfl (fun hpos => ?_) (fun hpos => ?_)
  rotate_left
  · have hL0 : L = [] := List.length_eq_zero_iff.1 (by omega)
    subst hL0
    have hnone : ∀ u, isNd fs u → u.length ≤ d := fun u hu => by
      refine Classical.byContradiction fun q => ?_
      have h1 := hL2 (u.take d) (hpre2 _ (u.drop d) (by rw [List.take_append_drop]; exact hu)) (by rw [List.length_take]; omega)
      cases h1
    with_reducible (refine c_exit ?_; refine on_e ?_; refine on_e ?_; refine ob_e ?_; refine on_n ?_; refine c_seq ?_)
    refine c_ops ?_
    refine r_op (o_mov (s_no ?_))
    dsimp only [putF, rd, Frame.get]
    refine r_op (o_mov (s_no ?_))
    dsimp only [putF, rd, Frame.get]
    refine r_nil (c_keep ?_)
    dsimp only [List.map]
    dsimp only [putF, rd, Frame.get]
    with_reducible (refine on_n ?_; refine c_ret ?_)
    try dsimp only
    unfold find_machine_r
    refine w_tmp (w_nil ?_)
    dsimp only [retV, Frame.get]
    have hsB := hsh.sk (setB_sk N β)
    refine ⟨_, ⟨setB N β, pt p (.row v 1 (lvC N [])) + X, hsB, fun n hn => ?_, fun n hn => ?_, ⟨_, setB_mem hr0, er0, by rw [← ep0, ← ev0]⟩, rfl⟩, hS.eq (by ac_rfl)⟩
    · obtain ⟨m, hm, rfl⟩ := List.mem_map.1 hn
      exact hG.fd m hm
    · obtain ⟨m, hm, rfl⟩ := List.mem_map.1 hn
      obtain ⟨c, hc, ec⟩ := (hsh.all _).1 (lsuf_nd fs m.s.tail)
      refine ⟨_, setB_mem hc, ec, ?_⟩
      show β m.s = some (c.p, c.v)
      rw [hβ m.s ((hsh.all _).2 ⟨m, hm, rfl⟩) (hnone _ ((hsh.all _).2 ⟨m, hm, rfl⟩)), hβs]
      show some (plOf N (lsuf fs m.s.tail)) = _
      rw [← ec, plOf_of hsh hc]
  have hd20 : d ≤ 20 := by
    obtain ⟨u, hu⟩ : ∃ u, u ∈ L := List.exists_mem_of_length_pos (by omega)
    have := hL1 u hu
    have := h20 u this.1
    omega
  obtain ⟨hK1, hK2, hK3⟩ := level_next hsh hL1 hL2 hL3 hpre
  have hKl := level_len hsh (fun u hu => (hK1 u hu).1) hK3
  have hLl := level_len hsh (fun u hu => (hL1 u hu).1) hL3
  have hNl' : N.length ≤ 401 := by omega
  with_reducible (refine c_skip ?_; refine on_n ?_; refine c_block ?_; refine c_seq ?_)
  refine c_ops ?_
  refine r_op (o_newnil hS fun v11 l11 S hS => s_no ?_)
  dsimp only [putF, rd, Frame.get]
  refine r_nil (c_keep ?_)
  dsimp only [List.map]
  dsimp only [putF, rd, Frame.get]
  with_reducible (refine on_n ?_; refine c_seq ?_; refine c_seq ?_)
  refine c_ops ?_
  refine r_op (o_mov (s_no ?_))
  dsimp only [putF, rd, Frame.get]
  refine r_op (o_len rfl (s_no ?_))
  dsimp only [putF, rd, Frame.get]
  refine r_op (o_mov (s_no ?_))
  dsimp only [putF, rd, Frame.get]
  refine r_nil (c_keep ?_)
  dsimp only [List.map]
  dsimp only [putF, rd, Frame.get]
  with_reducible (refine on_n ?_; refine c_block ?_)
  refine c_loop (fun k xs S => ∃ (i : Nat) (β : Bk) (B : List Bytes) (p' v' : Nat) (X : HM), xs = [.sl p' v' 0 B.length, .int .i64 (i : Int)] ∧ i ≤ L.length ∧ k = L.length - i ∧ B.Perm ((L.take i).flatMap (kids N)) ∧ (∀ u, isNd fs u → u.length ≤ d → β u = βs u) ∧ (∀ u ∈ B, β u = βs u) ∧ Has S (ndsM (setB N β) + (pt p (.row v 1 (lvC N L)) + (pt p' (.row v' 1 (lvC N B)) + (X + mf))))) L.length ⟨0, β, [], l11, v11, X, rfl, Nat.zero_le _, rfl, .refl _, hβ, (fun u hu => nomatch hu), hS.eq (by show _ = _ + (_ + (pt l11 (.row v11 1 []) + _)); ac_rfl)⟩ ?_
  clear hS hβ
  rintro k xs S hl4 ⟨i, β, B, p', v', X, rfl, hi2, rfl, hB, hβ, hβB, hS⟩
  dsimp only [zipF, List.map, Frame.get]
  with_reducible (refine c_seq ?_)
  refine c_ops ?_
  refine r_op (o_bin rfl (by first | trivial | (unfold inI64; omega)) (s_no ?_))
  dsimp only [putF, rd, Frame.get]
  refine r_nil (c_keep ?_)
  dsimp only [List.map]
  dsimp only [putF, rd, Frame.get]
  with_reducible (refine on_n ?_; refine c_seq ?_)
  refine c_dec rfl (fun hilt => ?_) (fun hilt => ?_)
  rotate_left
  · obtain rfl : i = L.length := by omega
    rw [List.take_length] at hB
    with_reducible (refine c_exit ?_; refine on_e ?_; refine on_e ?_; refine ob_e ?_; refine on_n ?_)
    refine c_ops ?_
    refine r_op (o_mov (s_no ?_))
    dsimp only [putF, rd, Frame.get]
    refine r_op (o_mov (s_no ?_))
    dsimp only [putF, rd, Frame.get]
    refine r_nil (c_keep ?_)
    dsimp only [List.map]
    dsimp only [putF, rd, Frame.get]
    with_reducible (refine ob_n ?_; refine on_n ?_)
    refine ⟨22 - (d + 1), by omega, d + 1, B, β, p', v', pt p (.row v 1 (lvC N L)) + X, rfl, rfl, fun u hu => hK1 u (hB.mem_iff.1 hu), fun u a b => hB.mem_iff.2 (hK2 u a b), hB.nodup_iff.2 hK3, fun u a b => ?_, hS.eq (by ac_rfl)⟩
    by_cases q : u.length ≤ d
    · exact hβ u a q
    · exact hβB u (hB.mem_iff.2 (hK2 u a (by omega)))
  have hilt : i < L.length := by omega
  obtain ⟨u, hu⟩ : ∃ u, L[i]? = some u := ⟨_, List.getElem?_eq_getElem hilt⟩
  obtain ⟨hun, hud⟩ := hL1 u (List.mem_of_getElem? hu)
  obtain ⟨n, hn2, rfl⟩ := (hsh.all u).1 hun
  have tu := lvC_at (N := N) hu
  rw [plOf_of hsh hn2, Nat.mul_one] at tu
  have hsplit : ∀ c ∈ N, ∃ R : Bk → HM, (∀ β, ndsM (setB N β) = pt c.p (.row c.v 0 [.map c.lm c.vm, bkA (β c.s), .int .i64 c.fd, .int .i64 (c.s.length : Int)]) + (pt c.lm (.mapo c.vm (esA c.es)) + R β)) ∧ ∀ β x, ndsM (setB N (updB β c.s x)) = pt c.p (.row c.v 0 [.map c.lm c.vm, .ptr x.1 x.2 0, .int .i64 c.fd, .int .i64 (c.s.length : Int)]) + (pt c.lm (.mapo c.vm (esA c.es)) + R β) := fun c hc => by
    obtain ⟨A, B, hAB⟩ := nd_split hc
    refine ⟨fun β => ndsM (setB A β) + ndsM (setB B β), fun β => by rw [hAB, setB_mid, ndsM_mid]; rfl, fun β x => ?_⟩
    rw [hAB, setB_upd (by rw [← hAB]; exact hsh.nd), ndsM_mid]; rfl
  obtain ⟨Rn, hRn, _⟩ := hsplit n hn2
  have hkl := level_len hsh (fun x hx => ((kids_mem hsh hn2 x).1 hx).1) (kids_nodup hsh hn2)
  rw [kids_of hsh hn2, List.length_map] at hkl
  have hBl : B.length ≤ 401 := by
    rw [hB.length_eq]
    have : ((L.take i).flatMap (kids N)).length ≤ (L.flatMap (kids N)).length := by
      conv => rhs; rw [← List.take_append_drop i L]
      rw [List.flatMap_append, List.length_append]; omega
    omega
  with_reducible (refine c_skip ?_; refine on_n ?_; refine c_seq ?_; refine c_block ?_; refine c_seq ?_)
  refine c_ops ?_
  refine r_op (o_iaddr hS rfl rfl rfl (by omega) (s_no ?_))
  dsimp only [putF, rd, Frame.get]
  simp only [Nat.zero_mul, Nat.mul_zero, Nat.mul_one, Nat.add_zero, Nat.zero_add, Nat.sub_zero, Nat.reduceAdd, Nat.reduceMul]
  refine r_op (o_load hS rfl rfl (by assumption) rfl (s_no ?_))
  dsimp only [putF, rd, Frame.get]
  refine r_op (o_mov (s_no ?_))
  dsimp only [putF, rd, Frame.get]
  refine r_nil (c_keep ?_)
  dsimp only [List.map]
  dsimp only [putF, rd, Frame.get]
  with_reducible (refine on_n ?_; refine c_seq ?_)
  rw [hRn] at hS
  refine c_ops ?_
  refine r_op (o_mov (s_no ?_))
  dsimp only [putF, rd, Frame.get]
  refine r_op (o_nilchk rfl (s_no ?_))
  dsimp only [putF, rd, Frame.get]
  refine r_op (o_faddr rfl (s_no ?_))
  dsimp only [putF, rd, Frame.get]
  simp only [Nat.zero_mul, Nat.mul_zero, Nat.mul_one, Nat.add_zero, Nat.zero_add, Nat.sub_zero, Nat.reduceAdd, Nat.reduceMul]
  refine r_op (o_load hS rfl rfl rfl rfl (s_no ?_))
  dsimp only [putF, rd, Frame.get]
  refine r_op (o_mrange hS rfl rfl fun v87 l87 S hS => s_no ?_)
  dsimp only [putF, rd, Frame.get]
  refine r_nil (c_keep ?_)
  dsimp only [List.map]
  dsimp only [putF, rd, Frame.get]
  rw [← hRn] at hS
  with_reducible (refine on_n ?_; refine c_block ?_)
  have hel : (esA n.es).length = n.es.length := List.length_map ..
  refine c_loop (fun k xs S => ∃ (seen : List Nat) (β : Bk) (B2 : List Bytes) (p' v' : Nat) (X : HM), xs = [.sl p' v' 0 B2.length] ∧ seen.Nodup ∧ (∀ j ∈ seen, j < n.es.length) ∧ k = n.es.length - seen.length ∧ B2.Perm (B ++ seen.map fun j => n.s ++ [(n.es.getD j (0, 0, 0)).1]) ∧ (∀ u, isNd fs u → u.length ≤ d → β u = βs u) ∧ (∀ u ∈ B2, β u = βs u) ∧ Has S (pt l87 (.itero v87 n.vm (esA n.es).length (esA n.es).length seen) + (ndsM (setB N β) + (pt p (.row v 1 (lvC N L)) + (pt p' (.row v' 1 (lvC N B2)) + (X + mf)))))) n.es.length ⟨[], β, B, p', v', X, rfl, List.nodup_nil, by simp, rfl, by simp, hβ, hβB, hS⟩ ?_
  clear hS hβ hβB
  rintro k xs S hl5 ⟨seen, β, B2, p', v', X, rfl, hsn, hslt, rfl, hB2, hβ, hβB, hS⟩
  dsimp only [zipF, List.map, Frame.get]
  with_reducible (refine c_seq ?_)
  rw [hRn] at hS
  refine c_ops ?_
  refine r_op ?_
  refine o_mnext (lm := n.lm) hS rfl rfl rfl rfl (fun hall => s_no ?_) (fun j ee S hje hns hS => s_no ?_)
  all_goals try dsimp only [putF, rd, Frame.get]
  all_goals (refine r_op (o_extract rfl rfl (s_no ?_)))
  all_goals (try dsimp only [putF, rd, Frame.get])
  all_goals refine r_nil (c_keep ?_)
  all_goals try dsimp only [List.map]
  all_goals try dsimp only [putF, rd, Frame.get]
  · with_reducible (refine on_n ?_; refine c_seq ?_)
    refine c_bool (c := false) rfl (fun h => by cases h) (fun _ => ?_)
    with_reducible (refine c_exit ?_; refine on_e ?_; refine on_e ?_; refine ob_e ?_; refine ob_n ?_; refine on_n ?_)
    refine c_ops ?_
    refine r_op (o_bin rfl (by first | trivial | (unfold inI64; omega)) (s_no ?_))
    dsimp only [putF, rd, Frame.get]
    refine r_op (o_mov (s_no ?_))
    dsimp only [putF, rd, Frame.get]
    refine r_nil (c_keep ?_)
    dsimp only [List.map]
    dsimp only [putF, rd, Frame.get]
    with_reducible (refine on_n ?_)
    rw [← hRn] at hS
    refine ⟨L.length - (i + 1), by omega, i + 1, β, B2, p', v', pt l87 (.itero v87 n.vm (esA n.es).length (esA n.es).length seen) + X, rfl, by omega, rfl, ?_, hβ, hβB, hS.eq (by ac_rfl)⟩
    rw [List.take_add_one, hu, List.flatMap_append]
    simp only [Option.toList_some, List.flatMap_cons, List.flatMap_nil, List.append_nil]
    refine hB2.trans (List.Perm.append hB ?_)
    rw [kids_of hsh hn2]
    have hp := (seen_perm hsn hslt (fun j hj => hall j (by omega))).map fun j => n.s ++ [(n.es.getD j (0, 0, 0)).1]
    refine hp.trans (List.Perm.of_eq ?_)
    refine List.ext_getElem (by simp) fun j h1 h2 => ?_
    simp only [List.length_map, List.length_range] at h1
    simp [List.getD, List.getElem?_eq_getElem h1]
  · with_reducible (refine on_n ?_; refine c_seq ?_)
    refine c_bool (c := true) rfl (fun _ => ?_) (fun h => by cases h)
    rw [← hRn] at hS
    have hj3 : j < n.es.length := by rw [← hel]; exact (List.getElem?_eq_some_iff.1 hje).1
    have hsn2 : (seen ++ [j]).Nodup := List.nodup_append.2 ⟨hsn, by simp, fun a ha b hb => by rintro rfl; simp only [List.mem_singleton] at hb; exact hns (hb ▸ ha)⟩
    have hslt2 : ∀ x ∈ seen ++ [j], x < n.es.length := fun x hx => by
      rcases List.mem_append.1 hx with h | h
      · exact hslt x h
      · simp only [List.mem_singleton] at h; omega
    have hle := seen_len hsn2 hslt2
    rw [List.length_append, List.length_singleton] at hle
    obtain ⟨⟨b, cp, cv⟩, hes⟩ : ∃ e, n.es[j]? = some e := ⟨_, List.getElem?_eq_getElem hj3⟩
    have hee : ee = (.int .u8 (b.toNat : Int), .ptr cp cv 0) := by
      unfold esA at hje
      rw [List.getElem?_map, hes] at hje
      exact (Option.some.inj hje).symm
    subst hee
    obtain ⟨c, hc, hcs, rfl, rfl⟩ := hsh.down n hn2 b cp cv (List.mem_of_getElem? hes)
    have hcd : c.s.length = d + 1 := by rw [hcs, List.length_append, hud]; rfl
    have hcn : isNd fs c.s := (hsh.all _).2 ⟨c, hc, rfl⟩
    obtain ⟨Rc, hRc, hRc2⟩ := hsplit c hc
    have hB2l : B2.length ≤ 802 := by
      rw [hB2.length_eq, List.length_append, List.length_map]; omega
    have hgetb : (n.es.getD j (0, 0, 0)).1 = b := by simp [List.getD, hes]
    with_reducible (refine c_skip ?_; refine on_n ?_; refine c_block ?_; refine c_seq ?_)
    rw [hRn] at hS
    refine c_ops ?_
    refine r_op ?_
    refine o_mentry (lm := n.lm) hS rfl rfl rfl hje ?_
    refine s_no ?_
    dsimp only [putF, rd, Frame.get]
    refine r_op (o_extract rfl rfl (s_no ?_))
    dsimp only [putF, rd, Frame.get]
    refine r_op (o_extract rfl rfl (s_no ?_))
    dsimp only [putF, rd, Frame.get]
    refine r_op (o_mov (s_no ?_))
    dsimp only [putF, rd, Frame.get]
    refine r_op (o_mov (s_no ?_))
    dsimp only [putF, rd, Frame.get]
    refine r_nil (c_keep ?_)
    dsimp only [List.map]
    dsimp only [putF, rd, Frame.get]
    rw [← hRn] at hS
    with_reducible (refine on_n ?_; refine c_seq ?_)
    rw [hRc] at hS
    refine c_ops ?_
    refine r_op (o_mov (s_no ?_))
    dsimp only [putF, rd, Frame.get]
    refine r_op (o_mov (s_no ?_))
    dsimp only [putF, rd, Frame.get]
    refine r_op (o_nilchk rfl (s_no ?_))
    dsimp only [putF, rd, Frame.get]
    refine r_op (o_faddr rfl (s_no ?_))
    dsimp only [putF, rd, Frame.get]
    simp only [Nat.zero_mul, Nat.mul_zero, Nat.mul_one, Nat.add_zero, Nat.zero_add, Nat.sub_zero, Nat.reduceAdd, Nat.reduceMul]
    refine r_op (o_store hS rfl rfl rfl rfl (by simp) fun S hS => s_no ?_)
    dsimp only [putF, rd, Frame.get]
    dsimp only [putF, rd, Frame.get, setCells, over] at hS
    refine r_nil (c_keep ?_)
    dsimp only [List.map]
    dsimp only [putF, rd, Frame.get]
    have hS : Has S (pt l87 (.itero v87 n.vm (esA n.es).length (esA n.es).length (seen ++ [j])) + (ndsM (setB N (updB β c.s (l18, v18))) + (pt p (.row v 1 (lvC N L)) + (pt p' (.row v' 1 (lvC N B2)) + (X + mf))))) := by rw [hRc2]; exact hS
    with_reducible (refine on_n ?_)
    refine c_join fun K1 hK => ?_
    have rest : ∀ (β' : Bk) (S : Store), (∀ x, x ≠ c.s → β' x = β x) → β' c.s = βs c.s → Has S (pt l87 (.itero v87 n.vm (esA n.es).length (esA n.es).length (seen ++ [j])) + (ndsM (setB N β') + (pt p (.row v 1 (lvC N L)) + (pt p' (.row v' 1 (lvC N B2)) + (X + mf))))) → K1 [] S := by
      intro β' S h1 h2 hS
      refine hK _ _ rfl ?_
      dsimp only [zipF, List.map, Frame.get]
      refine c_ops ?_
      refine r_op (o_mov (s_no ?_))
      dsimp only [putF, rd, Frame.get]
      refine r_op (o_mov (s_no ?_))
      dsimp only [putF, rd, Frame.get]
      refine r_op (o_bsliceR rfl (s_no ?_))
      dsimp only [putF, rd, Frame.get, setCells, over]
      refine r_op ?_
      refine o_appendX hS rfl (SrcOf.one rfl) rfl (by rw [lvC_len, Nat.mul_one]) (by omega) fun v112 S hS => ?_
      refine s_no ?_
      dsimp only [putF, rd, Frame.get]
      refine r_op (o_mov (s_no ?_))
      dsimp only [putF, rd, Frame.get]
      refine r_nil (c_keep ?_)
      dsimp only [List.map]
      dsimp only [putF, rd, Frame.get]
      with_reducible (refine ob_n ?_; refine on_n ?_)
      refine ⟨n.es.length - (seen ++ [j]).length, by rw [List.length_append, List.length_singleton]; omega, seen ++ [j], β', B2 ++ [c.s], p', v112, X, by rw [List.length_append]; rfl, hsn2, hslt2, rfl, ?_, fun x a q => ?_, fun x hx => ?_, hS.eq ?_⟩
      · rw [List.map_append, List.map_singleton, hgetb, ← hcs, ← List.append_assoc]
        exact hB2.append_right _
      · rw [h1 x (fun e => by rw [e, hcd] at q; omega)]; exact hβ x a q
      · by_cases e : x = c.s
        · rw [e]; exact h2
        · rw [h1 x e]
          rcases List.mem_append.1 hx with hx | hx
          · exact hβB x hx
          · simp only [List.mem_singleton] at hx; exact absurd hx e
      · have : lvC N (B2 ++ [c.s]) = lvC N B2 ++ [.ptr c.p c.v 0] := by
          unfold lvC; rw [List.map_append, List.map_singleton, plOf_of hsh hc]
        rw [this]
    obtain ⟨β1, hβ1⟩ : ∃ β1, β1 = updB β c.s (l18, v18) := ⟨_, rfl⟩
    rw [← hβ1] at hS
    have hb1 : ∀ x, x ≠ c.s → β1 x = β x := fun x hx => by rw [hβ1]; exact updB_ne hx
    have hS' := hS.eq (m' := ndsM (setB N β1) + (pt l87 (.itero v87 n.vm (esA n.es).length (esA n.es).length (seen ++ [j])) + (pt p (.row v 1 (lvC N L)) + (pt p' (.row v' 1 (lvC N B2)) + (X + mf))))) (by ac_rfl)
    have e1 := nds_at hS' (setB_mem (β := β1) hn2)
    have e2 := nds_at hS' (setB_mem (β := β1) hr0)
    rw [show ({ r0 with bk := β1 r0.s } : Nd).p = l18 from ep0, show ({ r0 with bk := β1 r0.s } : Nd).v = v18 from ev0] at e2
    with_reducible (refine c_seq ?_)
    refine c_ops ?_
    refine r_op (o_mov (s_no ?_))
    dsimp only [putF, rd, Frame.get]
    refine r_op (o_mov (s_no ?_))
    dsimp only [putF, rd, Frame.get]
    refine r_op ?_
    refine o_peq rfl rfl e1 e2 ?_
    refine s_no ?_
    dsimp only [putF, rd, Frame.get]
    refine r_nil (c_keep ?_)
    dsimp only [List.map]
    dsimp only [putF, rd, Frame.get]
    with_reducible (refine on_n ?_)
    by_cases hroot : n.s = []
    · have hnr : n = r0 := hsh.one hn2 hr0 (by rw [hroot, er0])
      have hp18 : n.p = l18 := by rw [hnr]; exact ep0
      refine c_bool (c := false) (by simp [rd, Frame.get, hp18]) (fun h => by cases h) (fun _ => ?_)
      with_reducible (refine c_skip ?_; refine on_n ?_)
      refine rest β1 S hb1 ?_ hS
      rw [hβ1, updB_self, hβs, hcs, hroot]
      show some (l18, v18) = some (plOf N (lsuf fs []))
      rw [show lsuf fs [] = [] from rfl, hpl0]
    · have hnp : n.p ≠ l18 := fun e => by
        have := nds_inj hS' (setB_mem (β := β1) hn2) (setB_mem (β := β1) hr0) (by show n.p = r0.p; rw [e, ep0])
        exact hroot (by have := congrArg Nd.s this; exact this.trans er0)
      refine c_bool (c := true) (by simp [rd, Frame.get, hnp]) (fun _ => ?_) (fun h => by cases h)
      obtain ⟨a, x, hax⟩ : ∃ a x, n.s = a :: x := by
        cases h : n.s with
        | nil => exact absurd h hroot
        | cons a x => exact ⟨a, x, rfl⟩
      obtain ⟨m, hm, hms⟩ := (hsh.all _).1 (lsuf_nd fs n.s.tail)
      have hml : m.s.length < d := by
        have := lsuf_len fs n.s.tail
        rw [hms]; rw [hax] at hud this ⊢
        simp only [List.length_cons, List.tail_cons] at *; omega
      have hbn : β1 n.s = some (m.p, m.v) := by
        rw [hb1 n.s (fun e => by rw [e] at hud; omega), hβ n.s hun (by omega), hβs]
        show some (plOf N (lsuf fs n.s.tail)) = _
        rw [← hms, plOf_of hsh hm]
      have hsB := hsh.sk (setB_sk N β1)
      have hstep := step_walk (fs := fs) hsB (setB_mem (β := β1) hm) (fun y hy hyl => by
        obtain ⟨z, hz, rfl⟩ := List.mem_map.1 hy
        have hyl : z.s.length ≤ m.s.length := hyl
        have hzn : isNd fs z.s := (hsh.all _).2 ⟨z, hz, rfl⟩
        obtain ⟨q, hq, hqs⟩ := (hsh.all _).1 (lsuf_nd fs z.s.tail)
        refine ⟨_, setB_mem (β := β1) hq, hqs, ?_⟩
        show β1 z.s = some (q.p, q.v)
        rw [hb1 z.s (fun e => by rw [e] at hyl; omega), hβ z.s hzn (by omega), hβs]
        show some (plOf N (lsuf fs z.s.tail)) = _
        rw [← hqs, plOf_of hsh hq]) b
      have tb : takeN 1 ([AVal.map n.lm n.vm, bkA (β1 n.s), .int .i64 n.fd, .int .i64 (n.s.length : Int)].drop 1) = some [.ptr m.p m.v 0] := by rw [hbn]; rfl
      have hSn : Has S (pt l87 (.itero v87 n.vm (esA n.es).length (esA n.es).length (seen ++ [j])) + ((pt n.p (.row n.v 0 [.map n.lm n.vm, bkA (β1 n.s), .int .i64 n.fd, .int .i64 (n.s.length : Int)]) + (pt n.lm (.mapo n.vm (esA n.es)) + Rn β1)) + (pt p (.row v 1 (lvC N L)) + (pt p' (.row v' 1 (lvC N B2)) + (X + mf))))) := by rw [← hRn]; exact hS
      refine c_ops ?_
      refine r_op (o_mov (s_no ?_))
      dsimp only [putF, rd, Frame.get]
      refine r_op (o_mov (s_no ?_))
      dsimp only [putF, rd, Frame.get]
      refine r_op (o_nilchk rfl (s_no ?_))
      dsimp only [putF, rd, Frame.get]
      refine r_op (o_faddr rfl (s_no ?_))
      dsimp only [putF, rd, Frame.get]
      simp only [Nat.zero_mul, Nat.mul_zero, Nat.mul_one, Nat.add_zero, Nat.zero_add, Nat.sub_zero, Nat.reduceAdd, Nat.reduceMul]
      refine r_op ?_
      refine o_load hSn rfl rfl tb rfl ?_
      refine s_no ?_
      dsimp only [putF, rd, Frame.get]
      refine r_op (o_mov (s_no ?_))
      dsimp only [putF, rd, Frame.get]
      refine r_op (o_call ?_)
      dsimp only [List.map, putF, rd, Frame.get]
      refine HC.use (a := ndsM (setB N β1)) hstep hS ?_; rintro r m' S ⟨c2, hc2, hc2s, rfl, rfl⟩ hS; rw [hRc] at hS
      refine s_no ?_
      refine r_op (o_nilchk rfl (s_no ?_))
      dsimp only [putF, rd, Frame.get]
      refine r_op (o_faddr rfl (s_no ?_))
      dsimp only [putF, rd, Frame.get]
      simp only [Nat.zero_mul, Nat.mul_zero, Nat.mul_one, Nat.add_zero, Nat.zero_add, Nat.sub_zero, Nat.reduceAdd, Nat.reduceMul]
      refine r_op (o_store hS rfl rfl rfl rfl (by simp) fun S hS => s_no ?_)
      dsimp only [putF, rd, Frame.get]
      dsimp only [putF, rd, Frame.get, setCells, over] at hS
      refine r_nil (c_keep ?_)
      dsimp only [List.map]
      dsimp only [putF, rd, Frame.get]
      with_reducible (refine on_n ?_)
      obtain ⟨q2, hq2, rfl⟩ := List.mem_map.1 hc2
      have hS : Has S (pt l87 (.itero v87 n.vm (esA n.es).length (esA n.es).length (seen ++ [j])) + (ndsM (setB N (updB β1 c.s (q2.p, q2.v))) + (pt p (.row v 1 (lvC N L)) + (pt p' (.row v' 1 (lvC N B2)) + (X + mf))))) := by rw [hRc2]; exact hS
      refine rest (updB β1 c.s (q2.p, q2.v)) S (fun y hy => by rw [updB_ne hy, hb1 y hy]) ?_ hS
      rw [updB_self, hβs]
      show _ = some (plOf N (lsuf fs c.s.tail))
      have hc2s : q2.s = lsuf fs (m.s ++ [b]) := hc2s
      rw [hms, lsuf_snoc] at hc2s
      have : c.s.tail = n.s.tail ++ [b] := by rw [hcs, hax]; rfl
      rw [this, ← hc2s, plOf_of hsh hq2]
end Go.Proofs.Ytfelfimcnidplaa.F
