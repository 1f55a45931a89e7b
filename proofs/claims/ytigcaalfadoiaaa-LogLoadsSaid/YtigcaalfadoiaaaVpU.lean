/-
  The log: what is refused, the bytes of a text and deeds, and how they are read back.
-/
import Derived.Test.YtigcaalfadoiaaaVpE
set_option linter.unusedVariables false
set_option linter.unusedSimpArgs false
namespace Go.Fu
open Go.Vc
noncomputable section
abbrev Deed := Int × Edit
abbrev tDeed : Ty := .st (.cons tI (.cons tEdit .nil))
abbrev tU : Ty := .int .u8
def deedFault (d : Deed) : Int :=
  if d.1 < 1 ∨ 4 < d.1 then 3 else if d.1 ≠ 1 ∧ ¬ (d.2.1 = 0 ∧ d.2.2.1 = 0 ∧ d.2.2.2 = []) then 4
  else if d.2.1 < 0 ∨ 600 < d.2.1 ∨ d.2.2.1 < 0 ∨ 600 < d.2.2.1 then 2 else 0
def deedsFault : List Deed → Int
  | [] => 0
  | d :: l => if deedFault d ≠ 0 then deedFault d else deedsFault l
def logBig (s : Bytes) (l : List Deed) : Prop := 600 < s.length ∨ 80 < l.length ∨ ∃ d ∈ l, 600 < d.2.2.2.length
instance (s : Bytes) (l : List Deed) : Decidable (logBig s l) := Classical.propDecidable _
def logFault (s : Bytes) (l : List Deed) : Int := if logBig s l then 1 else deedsFault l
def by8 (n : Int) : UInt8 := UInt8.ofNat (n % 256).toNat
def num2 (n : Int) : Bytes := [by8 (n / 256), by8 n]
def num4 (n : Int) : Bytes := [by8 (n / 16777216), by8 (n / 65536), by8 (n / 256), by8 n]
def deedBytes (d : Deed) : Bytes := by8 d.1 :: (if d.1 = 1 then num2 d.2.1 ++ num2 d.2.2.1 ++ num2 d.2.2.2.length ++ d.2.2.2 else [])
def logHead : Bytes := [70, 85, 83, 49]
def deedsBytes (l : List Deed) : Bytes := l.flatMap deedBytes
def logBody (s : Bytes) (l : List Deed) : Bytes := logHead ++ num2 s.length ++ s ++ num2 l.length ++ deedsBytes l
def saved (s : Bytes) (l : List Deed) : Bytes := logBody s l ++ num4 (polyOf (logBody s l)).1
def ints (b : Bytes) : List Int := b.map fun c => (c.toNat : Int)
def logSave (s : Bytes) (l : List Deed) : List Int × Int := if logFault s l ≠ 0 then ([], logFault s l) else (ints (saved s l), 0)
def log_fault_ct : Ct := ⟨tys2 .str (.sl tDeed), [.val tI], fun _ => True, fun x => logFault x.1 x.2⟩
def ref_LogFault_ct : Ct := log_fault_ct
def log_Save_ct : Ct := ⟨tys2 .str (.sl tDeed), [.own tU, .val tI], fun _ => True, fun x => logSave x.1 x.2⟩
def ref_LogSaved_ct : Ct := log_Save_ct
def ref_twoBytes_ct : Ct := ⟨tys1 tI, [.val .str], fun (n : Int) => 0 ≤ n ∧ n ≤ 4611686018427387904, fun (n : Int) => num2 n⟩
abbrev Rd := List Int × Bool
abbrev tRd : Ty := .st (.cons (.sl tU) (.cons .bool .nil))
/-- Cells as bytes. -/
def unI (l : List Int) : Bytes := l.map fun n => UInt8.ofNat n.toNat
def rdNum (r : Rd) : Rd × Int := if r.2 = true ∨ r.1.length < 2 then ((r.1, true), 0) else ((r.1.drop 2, false), 256 * gt r.1 0 + gt r.1 1)
def rdText1 (r : Rd) (n : Int) : Rd × Bytes := if r.2 = true ∨ (r.1.length : Int) < n then ((r.1, true), List.replicate (min n 2).toNat 0) else ((r.1.drop n.toNat, false), unI (r.1.take n.toNat))
def rdText (r : Rd) : Rd × Bytes := rdText1 (rdNum r).1 (rdNum r).2
def rdDeed1 (r : Rd) : Rd × Deed := ((rdText (rdNum (rdNum r).1).1).1, (1, (rdNum r).2, (rdNum (rdNum r).1).2, (rdText (rdNum (rdNum r).1).1).2))
def rdDeed (r : Rd) : Rd × Deed :=
  if r.2 = true ∨ r.1.length < 1 then ((r.1, true), (0, 0, 0, [])) else if gt r.1 0 = 1 then rdDeed1 (r.1.drop 1, false) else ((r.1.drop 1, false), (gt r.1 0, 0, 0, []))
def rdDeeds : Nat → Rd → List Deed → Rd × List Deed
  | 0, r, l => (r, l)
  | k + 1, r, l => if r.2 = true then (r, l) else rdDeeds k (rdDeed r).1 (l ++ [(rdDeed r).2])
def bytesOk (l : List Int) : Prop := ∀ x ∈ l, 0 ≤ x ∧ x < 256
def rdOk (r : Rd) : Prop := bytesOk r.1 ∧ r.1.length ≤ 140737488351232
def __log_reader__number_cu : Cu := ⟨tRd, .nil, [.val tI], fun r _ => rdOk r, fun r _ => rdNum r⟩
def __log_reader__text_cu : Cu := ⟨tRd, .nil, [.val .str], fun r _ => rdOk r, fun r _ => rdText r⟩
def __log_reader__deed_cu : Cu := ⟨tRd, .nil, [.val tDeed], fun r _ => rdOk r, fun r _ => rdDeed r⟩
def sumOf (l : List Int) : Int := l.foldl (fun s x => 256 * s + x) 0
def logBodyOf (b : List Int) : List Int := b.take (b.length - 4)
def logTail (b : List Int) : List Int := b.drop (b.length - 4)
def logParse (b : List Int) : (Rd × List Deed) × Bytes :=
  (rdDeeds (rdNum (rdText (b.drop 4, false)).1).2.toNat (rdNum (rdText (b.drop 4, false)).1).1 [], (rdText (b.drop 4, false)).2)
def logRead (b : List Int) : Bytes × List Deed × Int :=
  iteP ((logParse b).1.1.2 = true ∨ (logParse b).1.1.1 ≠ [] ∨ unI (b.take 4) ≠ logHead ∨ logFault (logParse b).2 (logParse b).1.2 ≠ 0) ([], [], 4) ((logParse b).2, (logParse b).1.2, 0)
def logLoad (b : List Int) : Bytes × List Deed × Int :=
  if b.length < 12 then ([], [], 5) else if (polyOf (unI (logBodyOf b))).1 ≠ sumOf (logTail b) then ([], [], 6) else logRead (logBodyOf b)
def log_Load_ct : Ct := ⟨tys1 (.sl tU), [.val .str, .own tDeed, .val tI], fun b => bytesOk b ∧ fitL b, fun b => logLoad b⟩
def ref_LogLoaded_ct : Ct := log_Load_ct
def law_sameDeeds_ct : Ct := ⟨tys2 (.sl tDeed) (.sl tDeed), [.val .bool], fun x => fitL x.1 ∧ fitL x.2, fun x => bo (x.1 = x.2)⟩
def law_sameBytes_ct : Ct := ⟨tys2 (.sl tU) (.sl tU), [.val .bool], fun x => fitL x.1 ∧ fitL x.2, fun x => bo (x.1 = x.2)⟩
theorem wrap8 (n : Int) : IntKind.u8.wrap n = ((by8 n).toNat : Int) := by
  have h : 0 ≤ n % 256 ∧ n % 256 < 256 := ⟨Int.emod_nonneg _ (by omega), Int.emod_lt_of_pos _ (by omega)⟩
  simp only [by8, IntKind.wrap, IntKind.bits, IntKind.signed]
  have e : (UInt8.ofNat (n % 256).toNat).toNat = (n % 256).toNat := by
    simp only [UInt8.toNat_ofNat']
    omega
  rw [e]
  simp <;> omega
theorem by8_mod (n : Int) : by8 (n % 256) = by8 n := by unfold by8; rw [show n % 256 % 256 = n % 256 by omega]
theorem by8_mod' (n : Int) : by8 (n % 65536) = by8 n := by unfold by8; rw [show n % 65536 % 256 = n % 256 by omega]
theorem unb (b : UInt8) : UInt8.ofNat (((b.toNat : Int)).toNat) = b := by simp
theorem unints (b : Bytes) : (ints b).map (fun n : Int => UInt8.ofNat n.toNat) = b := by
  unfold ints
  rw [List.map_map]
  conv => rhs; rw [← List.map_id b]
  exact List.map_congr_left fun c _ => by simp
theorem deeds_step {l : List Deed} {x : Int} (h0 : 0 ≤ x) (h1 : x < l.length) : deedsFault (l.drop x.toNat) = if deedFault (gt l x) ≠ 0 then deedFault (gt l x) else deedsFault (l.drop (x + 1).toNat) := by
  rw [drop_gt h0 h1, deedsFault]
theorem deeds_bad {l : List Deed} {x v : Int} (h0 : 0 ≤ x) (h1 : x < l.length) (e : deedFault (gt l x) = v) (hv : v ≠ 0) : deedsFault (l.drop x.toNat) = v := by
  rw [deeds_step h0 h1, if_pos (by rw [e]; exact hv), e]
theorem deeds_good {l : List Deed} {x : Int} (h0 : 0 ≤ x) (h1 : x < l.length) (e : deedFault (gt l x) = 0) : deedsFault (l.drop x.toNat) = deedsFault (l.drop (x + 1).toNat) := by
  rw [deeds_step h0 h1, if_neg (by simp [e])]
theorem df_kind {d : Deed} (h : d.1 < 1 ∨ 4 < d.1) : deedFault d = 3 := if_pos h
theorem df_form {d : Deed} (h : ¬ (d.1 < 1 ∨ 4 < d.1)) (h2 : d.1 ≠ 1 ∧ ¬ (d.2.1 = 0 ∧ d.2.2.1 = 0 ∧ d.2.2.2 = [])) : deedFault d = 4 := by
  unfold deedFault; rw [if_neg h, if_pos h2]
theorem df_range {d : Deed} (h : ¬ (d.1 < 1 ∨ 4 < d.1)) (h2 : ¬ (d.1 ≠ 1 ∧ ¬ (d.2.1 = 0 ∧ d.2.2.1 = 0 ∧ d.2.2.2 = []))) (h3 : d.2.1 < 0 ∨ 600 < d.2.1 ∨ d.2.2.1 < 0 ∨ 600 < d.2.2.1) : deedFault d = 2 := by
  unfold deedFault; rw [if_neg h, if_neg h2, if_pos h3]
theorem df_fine {d : Deed} (h : ¬ (d.1 < 1 ∨ 4 < d.1)) (h2 : ¬ (d.1 ≠ 1 ∧ ¬ (d.2.1 = 0 ∧ d.2.2.1 = 0 ∧ d.2.2.2 = []))) (h3 : ¬ (d.2.1 < 0 ∨ 600 < d.2.1 ∨ d.2.2.1 < 0 ∨ 600 < d.2.2.1)) : deedFault d = 0 := by
  unfold deedFault; rw [if_neg h, if_neg h2, if_neg h3]
theorem logFault_small {s : Bytes} {l : List Deed} (h1 : ¬ (600 < (s.length : Int) ∨ 80 < (l.length : Int))) (h2 : ∀ j : Int, 0 ≤ j → j < l.length → ¬ 600 < ((gt l j).2.2.2.length : Int)) : logFault s l = deedsFault l := by
  unfold logFault
  rw [if_neg]
  rintro (c | c | ⟨d, hd, c⟩)
  · omega
  · omega
  · obtain ⟨j, a, b, rfl⟩ := mem_gt hd
    have := h2 j a b
    omega
theorem logFault_big {s : Bytes} {l : List Deed} (h : logBig s l) : logFault s l = 1 := if_pos h
theorem deedsFault_at : ∀ {l : List Deed}, deedsFault l = 0 → ∀ d ∈ l, deedFault d = 0
  | [], _, d, h => by simp at h
  | e :: l, h, d, hd => by
    rw [deedsFault] at h
    by_cases c : deedFault e = 0
    · rw [if_neg (by simp [c])] at h
      rcases List.mem_cons.1 hd with rfl | hd
      · exact c
      · exact deedsFault_at h d hd
    · rw [if_pos c] at h; exact absurd h c
theorem deedFault_ok {d : Deed} (h : deedFault d = 0) : 1 ≤ d.1 ∧ d.1 ≤ 4 ∧ (d.1 = 1 ∨ d.2 = (0, 0, [])) ∧ 0 ≤ d.2.1 ∧ d.2.1 ≤ 600 ∧ 0 ≤ d.2.2.1 ∧ d.2.2.1 ≤ 600 := by
  unfold deedFault at h
  split at h
  · omega
  · split at h
    · omega
    · split at h
      · omega
      · rename_i h1 h2 h3
        refine ⟨by omega, by omega, ?_, by omega, by omega, by omega, by omega⟩
        by_cases c : d.1 = 1
        · exact .inl c
        · refine .inr ?_
          have : d.2.1 = 0 ∧ d.2.2.1 = 0 ∧ d.2.2.2 = [] := Classical.byContradiction fun w => h2 ⟨c, w⟩
          exact Prod.ext this.1 (Prod.ext this.2.1 this.2.2)
theorem logFault_ok {s : Bytes} {l : List Deed} (h : logFault s l = 0) : s.length ≤ 600 ∧ l.length ≤ 80 ∧ ∀ d ∈ l, d.2.2.2.length ≤ 600 ∧ deedFault d = 0 := by
  unfold logFault at h
  split at h
  · omega
  · rename_i c
    unfold logBig at c
    refine ⟨by omega, by omega, fun d hd => ⟨?_, deedsFault_at h d hd⟩⟩
    have : ¬ 600 < d.2.2.2.length := fun w => c (.inr (.inr ⟨d, hd, w⟩))
    omega
theorem num2_len (n : Int) : (num2 n).length = 2 := rfl
theorem deedBytes_len {d : Deed} (h : d.2.2.2.length ≤ 600) : (deedBytes d).length ≤ 607 := by
  unfold deedBytes
  split <;> simp [num2_len] <;> omega
theorem deedsBytes_len : ∀ {l : List Deed}, (∀ d ∈ l, d.2.2.2.length ≤ 600) → (deedsBytes l).length ≤ 607 * l.length
  | [], _ => by simp [deedsBytes]
  | d :: l, h => by
    have h1 := deedBytes_len (h d (by simp))
    have h2 := deedsBytes_len (l := l) fun e he => h e (by simp [he])
    simp only [deedsBytes, List.flatMap_cons, List.length_append, List.length_cons] at h2 ⊢
    omega
theorem deedsBytes_succ {l : List Deed} {x : Int} (h0 : 0 ≤ x) (h1 : x < l.length) : deedsBytes (l.take (x + 1).toNat) = deedsBytes (l.take x.toNat) ++ deedBytes (gt l x) := by
  rw [take_gt h0 h1]; simp [deedsBytes]
theorem wrapL (n : Int) : List.map (fun n : Int => UInt8.ofNat n.toNat) [IntKind.u8.wrap n] = [by8 n] := by simp [wrap8]
theorem num4_two {n : Int} (h : 0 ≤ n) : num2 (n.tdiv 65536) ++ num2 (n.tmod 65536) = num4 n := by
  rw [Int.tdiv_eq_ediv_of_nonneg h, Int.tmod_eq_emod_of_nonneg h]
  unfold num2 num4
  have e1 : n / 65536 / 256 = n / 16777216 := by omega
  have e2 : by8 (n % 65536 / 256) = by8 (n / 256) := by
    unfold by8
    rw [show n % 65536 / 256 % 256 = n / 256 % 256 by omega]
  rw [e1, e2, by8_mod']
  rfl
end
end Go.Fu
