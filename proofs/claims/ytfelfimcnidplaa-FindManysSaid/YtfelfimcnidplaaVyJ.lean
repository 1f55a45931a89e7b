/-
  Frames that are kept, objects that change their numbers, loops' invariants over plain terms.
-/
import Derived.Test.YtfelfimcnidplaaVyI
set_option linter.unusedVariables false
set_option linter.unusedSimpArgs false
set_option linter.unnecessarySimpa false
namespace Go.Vc

def kF (keep : List Nat) (A : Frame) : Frame := keep.map fun t => (t, A.get t)
theorem kF_get {A : Frame} : ∀ {keep : List Nat} {s : Nat}, s ∈ keep → Frame.get (kF keep A) s = A.get s
  | [], s, h => by cases h
  | t :: keep, s, h => by
    simp only [kF, List.map_cons]
    rw [get_cons]
    split
    · rename_i e; rw [e]
    · rename_i e
      exact kF_get (by rcases List.mem_cons.1 h with q | q; exact (e q.symm).elim; exact q)

theorem only_mem {F : RF} : ∀ {keep : List Nat} {s : Nat} {gs : List (Nat × Bool)} {P : Prop} {x : TV}, (s, gs, P, x) ∈ onlyT F keep → s ∈ keep ∧ gs = [] ∧ P = True ∧ ∃ Q, lookN F s = some ([], Q, x)
  | [], s, gs, P, x, h => by simp [onlyT] at h
  | t :: keep, s, gs, P, x, h => by
    simp only [onlyT] at h
    split at h
    · rename_i Q y hl
      rcases List.mem_cons.1 h with e | e
      · cases e
        exact ⟨by simp, rfl, rfl, Q, hl⟩
      · obtain ⟨h1, h2⟩ := only_mem e
        exact ⟨by simp [h1], h2⟩
    · obtain ⟨h1, h2⟩ := only_mem h
      exact ⟨by simp [h1], h2⟩

section
variable {H : HF} {F : RF} {A : Frame}

theorem plainEnt {s : Nat} {x : TV} (h : SimV H x (A.get s)) : EntOk H A s [] True x := ⟨fun _ => h, fun q => (q holds_nil).elim, ⟨fun _ => trivial, fun _ => holds_nil⟩⟩

theorem only_sim (hF : SimF H F A) (keep : List Nat) : SimF H (onlyT F keep) (kF keep A) := fun s gs P x hx => by
  obtain ⟨h1, rfl, rfl, Q, hl⟩ := only_mem (look_mem hx)
  exact plainEnt (by rw [kF_get h1]; exact (hF _ _ _ _ hl).on holds_nil)
theorem only_sim' (hF : SimF H F A) (keep : List Nat) : SimF H (onlyT F keep) A := fun s gs P x hx => by
  obtain ⟨h1, rfl, rfl, Q, hl⟩ := only_mem (look_mem hx)
  exact plainEnt ((hF _ _ _ _ hl).on holds_nil)

theorem lookT_sim (hF : SimF H F A) (t : Nat) : SimV H (lookT F t) (A.get t) := by
  unfold lookT
  split
  · rename_i x hl
    exact (hF _ _ _ _ hl).on holds_nil
  · simp [SimV]
theorem getsT_sim (hF : SimF H F A) : ∀ W : List Nat, SimL H (getsT F W) (W.map A.get)
  | [] => by simp [getsT, SimL]
  | t :: W => by simp only [getsT, List.map_cons, SimL]; exact ⟨_, _, rfl, lookT_sim hF t, getsT_sim hF W⟩

def PlainF (F : RF) : Prop := ∀ s gs P x, lookN F s = some (gs, P, x) → gs = [] ∧ P = True
theorem only_plain (F : RF) (keep : List Nat) : PlainF (onlyT F keep) := fun s gs P x hx => by
  obtain ⟨_, h1, h2, _⟩ := only_mem (look_mem hx)
  exact ⟨h1, h2⟩
theorem zip_sim {F0 : RF} {A0 : Frame} (h0 : SimF H F0 A0) (hp : PlainF F0) : ∀ (W : List Nat) {xs : List TV} {ys : List AVal}, SimL H xs ys → SimF H (zipT W xs F0) (zipF W ys A0) ∧ PlainF (zipT W xs F0)
  | [], xs, ys, h => by cases xs <;> cases ys <;> exact ⟨by simpa [zipT, zipF] using h0, by simpa [zipT] using hp⟩
  | t :: W, [], ys, h => by simp only [SimL] at h; subst h; exact ⟨by simpa [zipT, zipF] using h0, by simpa [zipT] using hp⟩
  | t :: W, x :: xs, ys, h => by
    simp only [SimL] at h
    obtain ⟨y, zs, rfl, h1, h2⟩ := h
    obtain ⟨g1, g2⟩ := zip_sim h0 hp W h2
    refine ⟨fun s gs P z hz => ?_, fun s gs P z hz => ?_⟩ <;> simp only [zipT, lookN] at hz
    · simp only [zipF]
      split at hz
      · rename_i hb
        cases hz
        rw [← beq_eq hb]
        exact plainEnt (by rw [get_cons, if_pos rfl]; exact h1)
      · rename_i hb
        have hne : t ≠ s := fun e => by subst e; simp at hb
        obtain ⟨rfl, rfl⟩ := g2 _ _ _ _ hz
        exact plainEnt (by rw [get_cons, if_neg hne]; exact (g1 _ _ _ _ hz).on holds_nil)
    · split at hz
      · cases hz; exact ⟨rfl, rfl⟩
      · exact g2 _ _ _ _ hz
end

/-! ### References below a number -/
mutual
def RefLt (n : Nat) : TV → Prop
  | .ptr l _ => l < n
  | .eptr l _ _ => l < n
  | .inn l _ => l < n
  | .ieptr l _ _ _ _ => l < n
  | .slf l => l < n
  | .ifs _ l => l < n
  | .sl l _ _ => l < n
  | .agg cs => RefLtL n cs
  | .tup cs => RefLtL n cs
  | .rop cs => RefLtL n cs
  | .fn _ cs => RefLtL n cs
  | _ => True
def RefLtL (n : Nat) : List TV → Prop
  | [] => True
  | x :: xs => RefLt n x ∧ RefLtL n xs
end
def OutN (n : Nat) (H : HF) : Prop := ∀ l, n ≤ l → H l = none
theorem OutN.lt {n l : Nat} {H : HF} {h : Hd} (ho : OutN n H) (hl : H l = some h) : l < n := by
  rcases Nat.lt_or_ge l n with q | q
  · exact q
  · rw [ho l q] at hl; cases hl
def truncH (n : Nat) (H : HF) : HF := fun l => if l < n then H l else none
theorem trunc_lt {n l : Nat} {H : HF} (h : l < n) : truncH n H l = H l := by simp [truncH, h]

mutual
theorem sim_ref {H : HF} {n : Nat} (ho : OutN n H) : ∀ {x : TV} {y : AVal}, SimV H x y → RefLt n x
  | .ptr l off, _, h => by simp only [SimV] at h; obtain ⟨_, _, _, h, _⟩ := h; exact ho.lt h
  | .eptr l _ _, _, h => by simp only [SimV] at h; obtain ⟨_, _, _, h, _⟩ := h; exact ho.lt h
  | .inn l _, _, h => by simp only [SimV] at h; obtain ⟨_, _, h, _⟩ := h; exact ho.lt h
  | .ieptr l _ _ _ _, _, h => by simp only [SimV] at h; obtain ⟨_, _, _, _, h, _⟩ := h; exact ho.lt h
  | .slf l, _, h => by simp only [SimV] at h; obtain ⟨_, h, _⟩ := h; exact ho.lt h
  | .ifs _ l, _, h => by simp only [SimV] at h; obtain ⟨_, h, _⟩ := h; exact ho.lt h
  | .sl l _ _, _, h => by simp only [SimV] at h; obtain ⟨_, h, _⟩ := h; exact ho.lt h
  | .agg cs, _, h => by simp only [SimV] at h; obtain ⟨_, _, h⟩ := h; exact simL_ref ho h
  | .tup cs, _, h => by simp only [SimV] at h; obtain ⟨_, _, h⟩ := h; exact simL_ref ho h
  | .rop cs, _, h => by simp only [SimV] at h; obtain ⟨_, _, h⟩ := h; exact simL_ref ho h
  | .fn _ cs, _, h => by simp only [SimV] at h; obtain ⟨_, _, h⟩ := h; exact simL_ref ho h
  | .junk, _, _ | .tt, _, _ | .ff, _, _ | .bb _, _, _ | .pr _, _, _ | .gd _, _, _ | .int _ _, _, _ | .byte _, _, _ | .str _, _, _ | .nilp, _, _ | .nilf, _, _ | .nilm, _, _ | .nili, _, _ | .nils, _, _ | .cst _, _, _ | .ros _ _, _, _ => trivial
theorem simL_ref {H : HF} {n : Nat} (ho : OutN n H) : ∀ {x : List TV} {y : List AVal}, SimL H x y → RefLtL n x
  | [], _, _ => trivial
  | x :: xs, _, h => by simp only [SimL] at h; obtain ⟨_, _, _, h1, h2⟩ := h; exact ⟨sim_ref ho h1, simL_ref ho h2⟩
end
mutual
theorem trunc_sim {H : HF} {n : Nat} : ∀ {x : TV} {y : AVal}, RefLt n x → SimV H x y → SimV (truncH n H) x y
  | .ptr l off, _, r, h => by simp only [RefLt] at r; simpa only [SimV, trunc_lt r] using h
  | .eptr l _ _, _, r, h => by simp only [RefLt] at r; simpa only [SimV, trunc_lt r] using h
  | .inn l _, _, r, h => by simp only [RefLt] at r; simpa only [SimV, trunc_lt r] using h
  | .ieptr l _ _ _ _, _, r, h => by simp only [RefLt] at r; simpa only [SimV, trunc_lt r] using h
  | .slf l, _, r, h => by simp only [RefLt] at r; simpa only [SimV, trunc_lt r] using h
  | .ifs _ l, _, r, h => by simp only [RefLt] at r; simpa only [SimV, trunc_lt r] using h
  | .sl l _ _, _, r, h => by simp only [RefLt] at r; simpa only [SimV, trunc_lt r] using h
  | .agg cs, _, r, h => by simp only [RefLt] at r; simp only [SimV] at *; obtain ⟨a, b, h⟩ := h; exact ⟨a, b, truncL_sim r h⟩
  | .tup cs, _, r, h => by simp only [RefLt] at r; simp only [SimV] at *; obtain ⟨a, b, h⟩ := h; exact ⟨a, b, truncL_sim r h⟩
  | .rop cs, _, r, h => by simp only [RefLt] at r; simp only [SimV] at *; obtain ⟨a, b, h⟩ := h; exact ⟨a, b, truncL_sim r h⟩
  | .fn _ cs, _, r, h => by simp only [RefLt] at r; simp only [SimV] at *; obtain ⟨a, b, h⟩ := h; exact ⟨a, b, truncL_sim r h⟩
  | .junk, _, _, h | .tt, _, _, h | .ff, _, _, h | .bb _, _, _, h | .pr _, _, _, h | .gd _, _, _, h | .int _ _, _, _, h | .byte _, _, _, h | .str _, _, _, h | .nilp, _, _, h | .nilf, _, _, h | .nilm, _, _, h | .nili, _, _, h | .nils, _, _, h | .cst _, _, _, h | .ros _ _, _, _, h => by simpa [SimV] using h
theorem truncL_sim {H : HF} {n : Nat} : ∀ {x : List TV} {y : List AVal}, RefLtL n x → SimL H x y → SimL (truncH n H) x y
  | [], _, _, h => by simpa [SimL] using h
  | x :: xs, _, r, h => by
    simp only [SimL, RefLtL] at *
    obtain ⟨a, b, c, h1, h2⟩ := h
    exact ⟨a, b, c, trunc_sim r.1 h1, truncL_sim r.2 h2⟩
end
mutual
theorem pure_sim {H H' : HF} : ∀ {x : TV} {y : AVal}, pureV x = true → SimV H x y → SimV H' x y
  | .ptr l off, _, r, h => by simp [pureV] at r
  | .eptr l _ _, _, r, h => by simp [pureV] at r
  | .inn l _, _, r, h => by simp [pureV] at r
  | .ieptr l _ _ _ _, _, r, h => by simp [pureV] at r
  | .slf l, _, r, h => by simp [pureV] at r
  | .ifs _ l, _, r, h => by simp [pureV] at r
  | .sl l _ _, _, r, h => by simp [pureV] at r
  | .agg cs, _, r, h => by simp only [pureV] at r; simp only [SimV] at *; obtain ⟨a, b, h⟩ := h; exact ⟨a, b, pureL_sim r h⟩
  | .tup cs, _, r, h => by simp only [pureV] at r; simp only [SimV] at *; obtain ⟨a, b, h⟩ := h; exact ⟨a, b, pureL_sim r h⟩
  | .rop cs, _, r, h => by simp only [pureV] at r; simp only [SimV] at *; obtain ⟨a, b, h⟩ := h; exact ⟨a, b, pureL_sim r h⟩
  | .fn _ cs, _, r, h => by simp only [pureV] at r; simp only [SimV] at *; obtain ⟨a, b, h⟩ := h; exact ⟨a, b, pureL_sim r h⟩
  | .junk, _, _, h | .tt, _, _, h | .ff, _, _, h | .bb _, _, _, h | .pr _, _, _, h | .gd _, _, _, h | .int _ _, _, _, h | .byte _, _, _, h | .str _, _, _, h | .nilp, _, _, h | .nilf, _, _, h | .nilm, _, _, h | .nili, _, _, h | .nils, _, _, h | .cst _, _, _, h | .ros _ _, _, _, h => by simpa [SimV] using h
theorem pureL_sim {H H' : HF} : ∀ {x : List TV} {y : List AVal}, pureL x = true → SimL H x y → SimL H' x y
  | [], _, _, h => by simpa [SimL] using h
  | x :: xs, _, r, h => by
    simp only [SimL, pureL, Bool.and_eq_true] at *
    obtain ⟨a, b, c, h1, h2⟩ := h
    exact ⟨a, b, c, pure_sim r.1 h1, pureL_sim r.2 h2⟩
end

/-- A frame that came back as it was. -/
theorem same_look : ∀ {F F' : RF}, sameF F F' = true → ∀ {s : Nat} {gs : List (Nat × Bool)} {P : Prop} {x : TV}, lookN F s = some (gs, P, x) → ∃ P' x', lookN F' s = some (gs, P', x') ∧ (pureV x = true ∨ x = x')
  | [], F', h, s, gs, P, x, hx => by simp [lookN] at hx
  | (a, g, p, z) :: F, [], h, s, gs, P, x, hx => by simp [sameF] at h
  | (a, g, p, z) :: F, (a', g', p', z') :: F', h, s, gs, P, x, hx => by
    simp only [sameF] at h
    split at h
    · rename_i hb he
      have e1 := beq_eq hb
      have e2 := eqPath_eq he
      subst e1; subst e2
      have step : (pureV z = true ∨ z = z') → sameF F F' = true → ∃ P' x', lookN ((a, g, p', z') :: F') s = some (gs, P', x') ∧ (pureV x = true ∨ x = x') := fun hz hr => by
        simp only [lookN] at hx ⊢
        split at hx
        · cases hx; exact ⟨_, _, rfl, hz⟩
        · exact same_look hr hx
      split at h
      · rename_i hp; exact step (.inl hp) h
      · split at h
        · rename_i hs; exact step (.inr (sameV_eq hs)) h
        · cases h
    · cases h
theorem same_sim {H0 H' : HF} {F F' : RF} {A : Frame} {n : Nat} (h : sameF F F' = true) (h0 : SimF H0 F A) (h1 : SimF H' F' A) (ho : OutN n H0) : SimF (truncH n H') F A := fun s gs P x hx => by
  have e := h0 _ _ _ _ hx
  obtain ⟨P', x', g1, g2⟩ := same_look h hx
  refine ⟨fun q => ?_, e.off, e.iff⟩
  rcases g2 with g2 | rfl
  · exact pure_sim g2 (e.on q)
  · exact trunc_sim (sim_ref ho (e.on q)) ((h1 _ _ _ _ g1).on q)
theorem sameG_sim {H0 H' : HF} {n : Nat} (ho : OutN n H0) : ∀ {G G' : List RF} {AG : List Frame}, sameG G G' = true → SimG H0 G AG → SimG H' G' AG → SimG (truncH n H') G AG
  | [], [], AG, _, h0, h1 => by cases h0; exact .nil
  | [], _ :: _, AG, h, _, _ => by simp [sameG] at h
  | _ :: _, [], AG, h, _, _ => by simp [sameG] at h
  | F :: G, F' :: G', AG, h, h0, h1 => by
    simp only [sameG] at h
    split at h
    · rename_i hf
      cases h0 with
      | cons a b => cases h1 with
        | cons c d => exact .cons (same_sim hf a c ho) (sameG_sim ho h b d)
    · cases h

/-! ### Two objects change their numbers -/
theorem swN_if (a b l : Nat) : swN a b l = if l = a then b else if l = b then a else l := by
  have hb : ∀ x y : Nat, Nat.beq x y = decide (x = y) := fun x y => by
    cases h : Nat.beq x y with
    | true => simp [beq_eq h]
    | false => simp [Nat.ne_of_beq_eq_false h]
  unfold swN
  simp only [hb]
  by_cases h1 : l = a
  · simp [h1]
  · by_cases h2 : l = b
    · subst h2; simp [h1]
    · simp [h1, h2]
theorem swN_swN (a b l : Nat) : swN a b (swN a b l) = l := by
  simp only [swN_if]
  split <;> split <;> (try split) <;> simp_all
def swH (a b : Nat) (H : HF) : HF := fun l => H (swN a b l)
mutual
theorem sw_sim {H : HF} {a b : Nat} : ∀ {x : TV} {y : AVal}, SimV H x y → SimV (swH a b H) (swV a b x) y
  | .ptr l off, _, h => by simpa only [swV, SimV, swH, swN_swN] using h
  | .eptr l _ _, _, h => by simpa only [swV, SimV, swH, swN_swN] using h
  | .inn l _, _, h => by simpa only [swV, SimV, swH, swN_swN] using h
  | .ieptr l _ _ _ _, _, h => by simpa only [swV, SimV, swH, swN_swN] using h
  | .slf l, _, h => by simpa only [swV, SimV, swH, swN_swN] using h
  | .ifs _ l, _, h => by simpa only [swV, SimV, swH, swN_swN] using h
  | .sl l _ _, _, h => by simpa only [swV, SimV, swH, swN_swN] using h
  | .agg cs, _, h => by simp only [swV, SimV] at *; obtain ⟨u, v, h⟩ := h; exact ⟨u, v, swL_sim h⟩
  | .tup cs, _, h => by simp only [swV, SimV] at *; obtain ⟨u, v, h⟩ := h; exact ⟨u, v, swL_sim h⟩
  | .rop cs, _, h => by simp only [swV, SimV] at *; obtain ⟨u, v, h⟩ := h; exact ⟨u, v, swL_sim h⟩
  | .fn _ cs, _, h => by simp only [swV, SimV] at *; obtain ⟨u, v, h⟩ := h; exact ⟨u, v, swL_sim h⟩
  | .junk, _, h | .tt, _, h | .ff, _, h | .bb _, _, h | .pr _, _, h | .gd _, _, h | .int _ _, _, h | .byte _, _, h | .str _, _, h | .nilp, _, h | .nilf, _, h | .nilm, _, h | .nili, _, h | .nils, _, h | .cst _, _, h | .ros _ _, _, h => by simpa [swV, SimV] using h
theorem swL_sim {H : HF} {a b : Nat} : ∀ {x : List TV} {y : List AVal}, SimL H x y → SimL (swH a b H) (swL a b x) y
  | [], _, h => by simpa [swL, SimL] using h
  | x :: xs, _, h => by
    simp only [swL, SimL] at *
    obtain ⟨u, v, w, h1, h2⟩ := h
    exact ⟨u, v, w, sw_sim h1, swL_sim h2⟩
end
theorem swL_length {a b : Nat} : ∀ xs : List TV, (swL a b xs).length = xs.length
  | [] => rfl
  | x :: xs => by simp [swL, swL_length xs]
theorem look_sw {a b : Nat} : ∀ {F : RF} {s : Nat} {gs : List (Nat × Bool)} {P : Prop} {x : TV}, lookN (swF a b F) s = some (gs, P, x) → ∃ x0, lookN F s = some (gs, P, x0) ∧ x = swV a b x0
  | [], s, gs, P, x, h => by simp [swF, lookN] at h
  | (t, g, q, z) :: F, s, gs, P, x, h => by
    simp only [swF, lookN] at h ⊢
    split at h
    · cases h; exact ⟨z, rfl, rfl⟩
    · exact look_sw h
theorem SimF.sw {H : HF} {a b : Nat} {F : RF} {A : Frame} (h : SimF H F A) : SimF (swH a b H) (swF a b F) A := fun s gs P x hx => by
  obtain ⟨x0, h1, rfl⟩ := look_sw hx
  have e := h _ _ _ _ h1
  exact ⟨fun q => sw_sim (e.on q), e.off, e.iff⟩
theorem SimG.sw {H : HF} {a b : Nat} {G : List RF} {AG : List Frame} (h : SimG H G AG) : SimG (swH a b H) (swG a b G) AG := by
  induction h with
  | nil => exact .nil
  | cons h _ ih => exact .cons h.sw ih
theorem ObS.sw {H : HF} {S : Store} {a b l : Nat} {o : TOb} (h : ObS H S (swN a b l) o) : ObS (swH a b H) S l (swOb a b o) := by
  cases o with
  | dead => exact h
  | cells k cs =>
    obtain ⟨p, v, xs, h1, h2, h3⟩ := h
    exact ⟨p, v, xs, by simp only [swH, swL_length]; exact h1, h2, swL_sim h3⟩
  | row t ls => exact h
  | drow t ls => exact h
theorem swM_map (a b : Nat) : ∀ TS : List TOb, swM a b TS = TS.map (swOb a b)
  | [] => rfl
  | o :: TS => by simp [swM, swM_map a b TS]
theorem St3.sw {H : HF} {TS : List TOb} {S : Store} (st : St3 H TS S) {a b : Nat} {x y : TOb} (ha : objAt TS a = some x) (hb : objAt TS b = some y) (hne : Nat.beq a b = false) : St3 (swH a b H) (swO a b TS) S := by
  have hab : a ≠ b := Nat.ne_of_beq_eq_false hne
  have la := obj_lt ha
  have lb := obj_lt hb
  have e : swO a b TS = ((TS.map (swOb a b)).set a (swOb a b y)).set b (swOb a b x) := by
    simp only [swO, ha, hb, setOb_eq, swM_map]
  have sa : swN a b a = b := by simp [swN]
  have sb : swN a b b = a := by
    have : Nat.beq b a = false := by
      cases h : Nat.beq b a with
      | true => exact (hab (beq_eq h).symm).elim
      | false => rfl
    simp [swN, this]
  have so : ∀ l, l ≠ a → l ≠ b → swN a b l = l := fun l h1 h2 => by
    have e1 : Nat.beq l a = false := by
      cases h : Nat.beq l a with
      | true => exact (h1 (beq_eq h)).elim
      | false => rfl
    have e2 : Nat.beq l b = false := by
      cases h : Nat.beq l b with
      | true => exact (h2 (beq_eq h)).elim
      | false => rfl
    simp [swN, e1, e2]
  rw [objAt_eq] at ha hb
  rw [e]
  refine ⟨fun l o hl => ?_, fun l hl => ?_, fun l l' h h' p v v' e1 e2 e3 e4 => ?_, fun l i h p v n e1 e2 => ?_⟩
  · by_cases h1 : l = b
    · subst h1
      rw [List.getElem?_set_self (by simpa using lb)] at hl
      cases hl
      exact ObS.sw (by rw [sb]; exact st.ob _ _ ha)
    · rw [List.getElem?_set_ne (Ne.symm h1)] at hl
      by_cases h2 : l = a
      · subst h2
        rw [List.getElem?_set_self (by simpa using la)] at hl
        cases hl
        exact ObS.sw (by rw [sa]; exact st.ob _ _ hb)
      · rw [List.getElem?_set_ne (Ne.symm h2), List.getElem?_map] at hl
        cases hx : TS[l]? with
        | none => rw [hx] at hl; cases hl
        | some o0 =>
          rw [hx] at hl
          simp at hl
          subst hl
          exact ObS.sw (by rw [so l h2 h1]; exact st.ob _ _ hx)
  · simp at hl
    simp only [swH]
    rw [so l (by omega) (by omega)]
    exact st.out l hl
  · have := st.inj _ _ _ _ _ _ _ e1 e2 e3 e4
    rw [← swN_swN a b l, this, swN_swN]
  · obtain ⟨g1, g2, g3⟩ := st.sub (swN a b l) i h p v n e1 e2
    refine ⟨g1, fun l' h' v' q1 q2 => g2 _ _ _ q1 q2, fun l' i' h' v' n' q1 q2 => ?_⟩
    obtain ⟨k1, k2⟩ := g3 _ _ _ _ _ q1 q2
    exact ⟨by rw [← swN_swN a b l', k1, swN_swN], k2⟩

theorem swaps_sound {K : TK} : ∀ (ps : List (Nat × Nat)) {F : RF} {G : List RF} {TS : List TOb} {H : HF} {A : Frame} {AG : List Frame} {S : Store}, swaps ps K F G TS → St3 H TS S → SimF H F A → SimG H G AG →
    ∃ H' F' G' TS', St3 H' TS' S ∧ SimF H' F' A ∧ SimG H' G' AG ∧ K F' G' TS'
  | [], F, G, TS, H, A, AG, S, h, st, hF, hG => ⟨H, F, G, TS, st, hF, hG, h⟩
  | p :: ps, F, G, TS, H, A, AG, S, h, st, hF, hG => by
    simp only [swaps] at h
    split at h
    · exact swaps_sound ps h st hF hG
    · rename_i hne
      split at h
      · rename_i x y hx hy
        exact swaps_sound ps h (st.sw hx hy hne) hF.sw hG.sw
      · exact h.elim
end Go.Vc
