/-
  The conditions of the simplified code, step by step, over parts of memory.
-/
import Derived.Test.YtfelfimcnidplaaVh1
set_option linter.unusedVariables false
set_option linter.unusedSimpArgs false
namespace Go.Vc
open HM
/-! ### What an operation comes to, as far as it can be reckoned -/
def cellsF : AVal → Option (List AVal)
  | .agg cs => some cs
  | .tup _ => none
  | .junk => none
  | .cst _ => none
  | x => some [x]
def mkF (ag : Bool) (xs : List AVal) : Option AVal := match ag with | true => some (.agg xs) | false => (match xs with | [x] => some x | _ => none)
def lenB {α : Type} : List α → Nat → Bool
  | [], 0 => true
  | _ :: l, n + 1 => lenB l n
  | _, _ => false
def leB {α : Type} : Nat → List α → Bool
  | 0, _ => true
  | n + 1, _ :: l => leB n l
  | _ + 1, [] => false
theorem lenB_iff {α : Type} : ∀ {l : List α} {n : Nat}, lenB l n = true → l.length = n
  | [], 0, _ => rfl
  | _ :: l, n + 1, h => by simp [lenB_iff (l := l) (n := n) h]
  | [], _ + 1, h => by simp [lenB] at h
  | _ :: _, 0, h => by simp [lenB] at h
theorem leB_iff {α : Type} : ∀ {n : Nat} {l : List α}, leB n l = true → n ≤ l.length
  | 0, _, _ => Nat.zero_le _
  | n + 1, _ :: l, h => by have := leB_iff (n := n) (l := l) h; simp; omega
  | _ + 1, [], h => by simp [leB] at h
def fillF (F : Frame) (cs : List AVal) : List (Nat × Nat × Rand) → Option (List AVal)
  | [] => some cs
  | (off, n, x) :: rest => match cellsF (rd F x) with
    | some ys => (match lenB ys n, leB (off + n) cs with | true, true => fillF F (setCells cs off ys) rest | _, _ => none)
    | none => none
def wMkF (k : IntKind) (n : Int) : Prop × AVal := match k with | .i64 => (inI64 n, .int .i64 n) | k => (True, .int k (k.wrap n))
def intF (op : BinOp) (k : IntKind) (a b : Int) : Option (Prop × AVal) :=
  match op with
  | .add => some (wMkF k (a + b))
  | .sub => some (wMkF k (a - b))
  | .mul => some (wMkF k (a * b))
  | .quo => some (b ≠ 0 ∧ (wMkF k (a.tdiv b)).1, (wMkF k (a.tdiv b)).2)
  | .rem => some (b ≠ 0, .int k (a.tmod b))
  | .eql => some (True, .bool (decide (a = b)))
  | .neq => some (True, .bool (!decide (a = b)))
  | .lss => some (True, .bool (decide (a < b)))
  | .leq => some (True, .bool (decide (a ≤ b)))
  | .gtr => some (True, .bool (decide (b < a)))
  | .geq => some (True, .bool (decide (b ≤ a)))
  | _ => none
def strF (op : BinOp) (a b : List UInt8) : Option (Prop × AVal) :=
  match op with
  | .add => some (inI64 (a.length + b.length), .str (a ++ b))
  | .eql => some (True, .bool (decide (a = b)))
  | .neq => some (True, .bool (!decide (a = b)))
  | .lss => some (True, .bool (Op.bytesLess a b))
  | .leq => some (True, .bool (Op.bytesLess a b || decide (a = b)))
  | .gtr => some (True, .bool (!(Op.bytesLess a b || decide (a = b))))
  | .geq => some (True, .bool (!Op.bytesLess a b))
  | _ => none
def eqF (op : BinOp) (r : Bool) : Option (Prop × AVal) := match op with | .eql => some (True, .bool r) | .neq => some (True, .bool (!r)) | _ => none
def kB : IntKind → IntKind → Bool
  | .i8, .i8 | .u8, .u8 | .i16, .i16 | .u16, .u16 | .i32, .i32 | .u32, .u32 | .i64, .i64 | .u64, .u64 => true
  | _, _ => false
theorem kB_iff {a b : IntKind} (h : kB a b = true) : a = b := by cases a <;> cases b <;> simp_all [kB]
def binF (q : EqQ) (op : BinOp) (x y : AVal) : Option (Prop × AVal) :=
  match x, y with
  | .int k a, .int k' b => (match op with
    | .shl => none
    | .shr => none
    | op => (match kB k k' with | true => intF op k a b | false => none))
  | .str a, .str b => strF op a b
  | .bool a, .bool b => (match q with | .bool => eqF op (decide (a = b)) | _ => none)
  | .nilp, .nilp => (match q with | .ptr => eqF op true | _ => none)
  | .ptr _ _ _, .nilp => (match q with | .ptr => eqF op false | _ => none)
  | .nilp, .ptr _ _ _ => (match q with | .ptr => eqF op false | _ => none)
  | .rop _, .nilp => (match q with | .ptr => eqF op false | _ => none)
  | .nilp, .rop _ => (match q with | .ptr => eqF op false | _ => none)
  | _, _ => none
section
variable {P : Program} {F : Frame} {S : Store} {K : AVal → Store → Prop}
theorem wMkF_ok {k : IntKind} {n : Int} {K : AVal → Prop} (hp : (wMkF k n).1) (h : K (wMkF k n).2) : wMk k n K := by
  cases k <;> first | exact h | exact ⟨hp, h⟩
theorem intF_ok {op : BinOp} {k : IntKind} {a b : Int} {p : Prop} {r : AVal} {K : AVal → Prop} (hb : intF op k a b = some (p, r)) (hp : p) (h : K r) : intBin op k a b K := by
  cases op <;> simp only [intF] at hb <;> first | cases hb | skip
  all_goals (try (simp only [Option.some.injEq, Prod.mk.injEq] at hb; obtain ⟨rfl, rfl⟩ := hb))
  all_goals first
    | exact h
    | exact ⟨hp, h⟩
    | (simp only [Option.some.injEq] at hb; rw [Prod.ext_iff] at hb; obtain ⟨e1, e2⟩ := hb; simp only at e1 e2; subst e1 e2; exact wMkF_ok hp h)
    | exact ⟨hp.1, wMkF_ok hp.2 h⟩
theorem strF_ok {op : BinOp} {a b : List UInt8} {p : Prop} {r : AVal} {K : AVal → Prop} (hb : strF op a b = some (p, r)) (hp : p) (h : K r) : strBin op a b K := by
  cases op <;> simp only [strF, Option.some.injEq, Prod.mk.injEq] at hb <;> first | cases hb; done | skip
  all_goals (obtain ⟨rfl, rfl⟩ := hb; first | exact h | exact ⟨hp, h⟩)
theorem eqF_ok {op : BinOp} {b : Bool} {p : Prop} {r : AVal} {K : AVal → Prop} (hb : eqF op b = some (p, r)) (hp : p) (h : K r) : eqK op b K := by
  cases op <;> simp only [eqF, Option.some.injEq, Prod.mk.injEq] at hb <;> first | cases hb; done | skip
  all_goals (obtain ⟨rfl, rfl⟩ := hb; exact h)
theorem binF_ok {q : EqQ} {op : BinOp} {x y : AVal} {p : Prop} {r : AVal} {K : AVal → Prop} (hb : binF q op x y = some (p, r)) (hp : p) (h : K r) : vcBin q op x y K := by
  unfold binF at hb
  split at hb
  · rename_i k a k' b
    have : ∀ o : BinOp, o ≠ .shl → o ≠ .shr → (match kB k k' with | true => intF o k a b | false => none) = some (p, r) → k = k' ∧ intBin o k a b K := fun o h1 h2 hb => by
      cases hk : kB k k' with
      | false => rw [hk] at hb; cases hb
      | true => rw [hk] at hb; exact ⟨kB_iff hk, intF_ok hb hp h⟩
    cases op <;> first | (cases hb; done) | exact this _ (by simp) (by simp) hb
  · exact strF_ok hb hp h
  · rename_i a b
    cases q <;> first | (cases hb; done) | exact eqF_ok hb hp h
  all_goals (cases q <;> first | (cases hb; done) | exact eqF_ok hb hp h)
theorem cellsF_ok {x : AVal} {ys : List AVal} {K : List AVal → Prop} (h : cellsF x = some ys) (hk : K ys) : wCells x K := by
  cases x <;> simp only [cellsF, Option.some.injEq] at h <;> first | (cases h; done) | (subst h; exact hk)
theorem fillF_ok {K : List AVal → Prop} : ∀ {ps : List (Nat × Nat × Rand)} {cs cs' : List AVal}, fillF F cs ps = some cs' → K cs' → wFill F cs K ps
  | [], cs, cs', h, hk => by simp only [fillF] at h; cases h; exact hk
  | (off, n, x) :: rest, cs, cs', h, hk => by
    simp only [fillF] at h
    split at h
    · rename_i ys hy
      split at h
      · rename_i h1 h2
        simp only [wFill, rdK_iff]
        exact cellsF_ok hy ⟨lenB_iff h1, leB_iff h2, setCellsK_iff.2 (fillF_ok h hk)⟩
      · cases h
    · cases h
theorem mkF_ok {ag : Bool} {xs : List AVal} {x : AVal} {K : AVal → Prop} (h : mkF ag xs = some x) (hk : K x) : mkVK ag xs K := by
  cases ag
  · simp only [mkF] at h
    split at h
    · cases h; exact hk
    · cases h
  · cases h; exact hk

/-! ### Operations -/
variable {m : HM} {l v k off n : Nat} {o : Ob} {f : Ob → HM} {cs xs ys : List AVal} {x y z : Rand} {r : AVal} {ag : Bool} {d : Option Nat} {chk : List (Nat × Nat × Bool × Rand)}
theorem o_mov (h : K (rd F x) S) : vcOp P F S K (.mov x) := rdK_iff.2 h
theorem o_newnil (hS : Has S m) (h : ∀ v l S', Has S' (pt l (.row v k []) + m) → K (.sl l v 0 0) S') : vcOp P F S K (.newnil k) := fun v => hS.wpush fun l S' => h v l S'
theorem o_alloc {z : List AVal} (hS : Has S m) (h : ∀ v l S', Has S' (pt l (.row v k z) + m) → K (.ptr l v 0) S') : vcOp P F S K (.alloc k z) := fun v => hS.wpush fun l S' => h v l S'
theorem o_box (hS : Has S m) (hc : cellsF (rd F x) = some ys) (h : ∀ v l S', Has S' (pt l (.row v k ys) + m) → K (.ptr l v 0) S') : vcOp P F S K (.box k x) := rdK_iff.2 (cellsF_ok hc fun v => hS.wpush fun l S' => h v l S')
theorem o_build {z : List AVal} {ps : List (Nat × Nat × Rand)} (hf : fillF F z ps = some ys) (h : K (.agg ys) S) : vcOp P F S K (.build z ps) := fillF_ok hf h
theorem o_bsliceR {len : Nat} {z : List AVal} {ps : List (Nat × Nat × Rand)} (hf : fillF F z ps = some ys) (h : K (.ros len ys) S) : vcOp P F S K (.bslice true len k z ps) := fillF_ok hf h
theorem o_bsliceW {len : Nat} {z : List AVal} {ps : List (Nat × Nat × Rand)} (hS : Has S m) (hf : fillF F z ps = some ys) (h : ∀ v l S', Has S' (pt l (.row v k ys) + m) → K (.sl l v 0 len) S') : vcOp P F S K (.bslice false len k z ps) := fillF_ok hf fun v => hS.wpush fun l S' => h v l S'
theorem o_load (hS : Has S m) (hx : rd F x = .ptr l v off) [i : At m l o f] (ho : o = .row v k cs) (ht : takeN n (cs.drop off) = some xs) (hm : mkF ag xs = some r) (h : K r S) : vcOp P F S K (.load n ag x) := by
  refine rdK_iff.2 ?_
  rw [hx]
  refine hS.row ho ?_
  cases k with
  | zero => exact dropK_iff.2 (takeK_iff.2 ⟨xs, ht, mkF_ok hm h⟩)
  | succ k => exact ⟨xs, ht, mkF_ok hm h⟩
theorem o_loadR (hx : rd F x = .rop cs) (ht : takeN n cs = some xs) (hm : mkF ag xs = some r) (h : K r S) : vcOp P F S K (.load n ag x) := by
  refine rdK_iff.2 ?_
  rw [hx]
  exact takeK_iff.2 ⟨xs, ht, mkF_ok hm h⟩
theorem o_store (hS : Has S m) (hx : rd F x = .ptr l v off) [i : At m l o f] (ho : o = .row v k cs) (hc : cellsF (rd F y) = some ys) (hn : ys.length = n) (hle : off + n ≤ cs.length) (h : ∀ S', Has S' (f (.row v k (setCells cs off ys))) → K .junk S') : vcOp P F S K (.store n x y) := by
  refine rdK_iff.2 ?_
  rw [hx]
  refine hS.row ho (rdK_iff.2 (cellsF_ok hc ⟨hn, hle, setRowK_iff.2 (hS.wset fun S' hS' => h S' hS')⟩))
theorem o_nilchk (hx : rd F x = .ptr l v off) (h : K (.ptr l v off) S) : vcOp P F S K (.nilchk x) := by refine rdK_iff.2 ?_; rw [hx]; exact h
theorem o_nilchkR (hx : rd F x = .rop cs) (h : K (.rop cs) S) : vcOp P F S K (.nilchk x) := by refine rdK_iff.2 ?_; rw [hx]; exact h
theorem o_nilchkF {g : FuncId} {a b : List AVal} (hx : rd F x = .fn (.func g) a b) (h : K (.fn (.func g) a b) S) : vcOp P F S K (.nilchk x) := by refine rdK_iff.2 ?_; rw [hx]; exact h
theorem o_nilchkM (hx : rd F x = .map l v) (h : K (.map l v) S) : vcOp P F S K (.nilchk x) := by refine rdK_iff.2 ?_; rw [hx]; exact h
theorem o_bin {q : EqQ} {op : BinOp} {p : Prop} (hb : binF q op (rd F x) (rd F y) = some (p, r)) (hp : p) (h : K r S) : vcOp P F S K (.bin q op x y) := rdK_iff.2 (rdK_iff.2 (binF_ok hb hp h))
theorem o_not {b : Bool} (hx : rd F x = .bool b) (h : K (.bool (!b)) S) : vcOp P F S K (.not x) := by refine rdK_iff.2 ?_; rw [hx]; exact h
theorem o_strid {s : List UInt8} (hx : rd F x = .str s) (h : K (.str s) S) : vcOp P F S K (.strid x) := by refine rdK_iff.2 ?_; rw [hx]; exact h
theorem o_neg {ik : IntKind} {a : Int} (hx : rd F x = .int ik a) (hp : (wMkF ik (0 - a)).1) (h : K (wMkF ik (0 - a)).2 S) : vcOp P F S K (.neg x) := by refine rdK_iff.2 ?_; rw [hx]; exact wMkF_ok (K := fun r => K r S) hp h
theorem o_conv {ik jk : IntKind} {a : Int} (hx : rd F x = .int ik a) (hp : (wMkF jk a).1) (h : K (wMkF jk a).2 S) : vcOp P F S K (.conv jk x) := by refine rdK_iff.2 ?_; rw [hx]; exact wMkF_ok (K := fun r => K r S) hp h
theorem o_mkslice {b : Nat} {z : List AVal} {ik : IntKind} (hS : Has S m) (hx : rd F x = .int ik (n : Int)) (hy : rd F y = rd F x) (hb : b * n ≤ 140737488355328) (h : ∀ v l S', Has S' (pt l (.row v k (List.replicate n z).flatten) + m) → K (.sl l v 0 n) S') : vcOp P F S K (.mkslice k b z x y) := by
  refine rdK_iff.2 (rdK_iff.2 ?_)
  rw [hy, hx]
  exact ⟨n, rfl, .inl rfl, hb, fun v => hS.wpush fun l S' => h v l S'⟩
/-- With room for more. -/
theorem o_mkcap {b c : Nat} {z : List AVal} {ik kc : IntKind} (hS : Has S m) (hx : rd F x = .int ik (n : Int)) (hy : rd F y = .int kc (c : Int)) (hn : n ≤ c) (hb : b * c ≤ 140737488355328) (h : ∀ v l S', Has S' (pt l (.row v k (List.replicate n z).flatten) + m) → K (.sl l v 0 n) S') : vcOp P F S K (.mkslice k b z x y) := by
  refine rdK_iff.2 (rdK_iff.2 ?_)
  rw [hy, hx]
  exact ⟨n, rfl, .inr ⟨kc, c, rfl, hn, hb⟩, Nat.le_trans (Nat.mul_le_mul_left b hn) hb, fun v => hS.wpush fun l S' => h v l S'⟩
/-- A bound of a cut, as a number. -/
def IsLo (F : Frame) : Option Rand → Nat → Prop
  | none, j => j = 0
  | some r, j => ∃ k, rd F r = .int k (j : Int)
def IsHi (F : Frame) (n : Nat) : Option Rand → Nat → Prop
  | none, j => j = n
  | some r, j => ∃ k, rd F r = .int k (j : Int)
theorem wLo_ok {lo : Option Rand} {j : Nat} {K : Nat → Prop} (h : IsLo F lo j) (hk : K j) : wLo F lo K := by
  cases lo with
  | none => simp only [IsLo] at h; subst h; exact hk
  | some r => obtain ⟨k, h⟩ := h; refine rdK_iff.2 ?_; rw [h]; exact ⟨j, rfl, hk⟩
theorem wHi_ok {hi : Option Rand} {n j : Nat} {K : Nat → Prop} (h : IsHi F n hi j) (hk : K j) : wHi F n hi K := by
  cases hi with
  | none => simp only [IsHi] at h; subst h; exact hk
  | some r => obtain ⟨k, h⟩ := h; refine rdK_iff.2 ?_; rw [h]; exact ⟨j, rfl, hk⟩
variable {lo hi : Option Rand} {j h' : Nat}
theorem o_sliceS {s : List UInt8} (hx : rd F x = .str s) (hh : IsHi F s.length hi h') (hl : IsLo F lo j) (h1 : j ≤ h') (h2 : h' ≤ s.length) (h : K (.str ((s.take h').drop j)) S) : vcOp P F S K (.slice 0 x lo hi) := by
  refine rdK_iff.2 ?_; rw [hx]; exact wHi_ok hh (wLo_ok hl ⟨h1, h2, h⟩)
theorem o_slice (hS : Has S m) (hx : rd F x = .sl l v off n) [i : At m l o f] (ho : o = .row v (k + 1) cs) (hh : IsHi F n hi h') (hl : IsLo F lo j) (h1 : j ≤ h') (h2 : h' ≤ n) (h : K (.sl l v (off + j * (k + 1)) (h' - j)) S) : vcOp P F S K (.slice (k + 1) x lo hi) := by
  refine rdK_iff.2 ?_; rw [hx]; exact wHi_ok hh (wLo_ok hl ⟨h1, h2, hS.row ho ⟨rfl, h⟩⟩)
theorem o_sliceR (hx : rd F x = .ros n cs) (hh : IsHi F n hi h') (hl : IsLo F lo j) (h1 : j ≤ h') (h2 : h' ≤ n) (h3 : n * (k + 1) ≤ cs.length) (h : K (.ros (h' - j) (subL cs (j * (k + 1)) ((h' - j) * (k + 1)))) S) : vcOp P F S K (.slice (k + 1) x lo hi) := by
  refine rdK_iff.2 ?_; rw [hx]; exact wHi_ok hh (wLo_ok hl ⟨h1, h2, h3, h⟩)
theorem o_sliceN (hx : rd F x = .nils) (hh : IsHi F 0 hi 0) (hl : IsLo F lo 0) (h : K .nils S) : vcOp P F S K (.slice (k + 1) x lo hi) := by
  refine rdK_iff.2 ?_; rw [hx]; exact wHi_ok hh (wLo_ok hl ⟨rfl, rfl, h⟩)
theorem o_faddr (hx : rd F x = .ptr l v n) (h : K (.ptr l v (n + off)) S) : vcOp P F S K (.faddr off x) := by refine rdK_iff.2 ?_; rw [hx]; exact h
theorem o_faddrR (hx : rd F x = .rop cs) (h : K (.rop (cs.drop off)) S) : vcOp P F S K (.faddr off x) := by refine rdK_iff.2 ?_; rw [hx]; exact dropK_iff.2 h
theorem o_field (hx : rd F x = .agg cs) (ht : takeN n (cs.drop off) = some xs) (hm : mkF ag xs = some r) (h : K r S) : vcOp P F S K (.field off n ag x) := by
  refine rdK_iff.2 ?_; rw [hx]; exact dropK_iff.2 (takeK_iff.2 ⟨xs, ht, mkF_ok hm h⟩)
theorem o_iaddr {ik : IntKind} (hS : Has S m) (hx : rd F x = .sl l v off n) (hy : rd F y = .int ik (j : Int)) [i : At m l o f] (ho : o = .row v k cs) (hj : j < n) (h : K (.ptr l v (off + j * k)) S) : vcOp P F S K (.iaddr k none x y) := by
  refine rdK_iff.2 (rdK_iff.2 ?_); rw [hx, hy]; exact ⟨j, rfl, hj, hS.row ho ⟨rfl, h⟩⟩
theorem o_iaddrR {ik : IntKind} (hx : rd F x = .ros n cs) (hy : rd F y = .int ik (j : Int)) (hj : j < n) (ht : takeN k (cs.drop (j * k)) = some xs) (h : K (.rop xs) S) : vcOp P F S K (.iaddr k none x y) := by
  refine rdK_iff.2 (rdK_iff.2 ?_); rw [hx, hy]; exact ⟨j, rfl, hj, xs, ht, h⟩
theorem o_iaddrA {ik : IntKind} (hx : rd F x = .ptr l v off) (hy : rd F y = .int ik (j : Int)) (hj : j < n) (h : K (.ptr l v (off + j * k)) S) : vcOp P F S K (.iaddr k (some n) x y) := by
  refine rdK_iff.2 (rdK_iff.2 ?_); rw [hx, hy]; exact ⟨j, rfl, hj, h⟩
theorem o_iaddrAR {ik : IntKind} (hx : rd F x = .rop cs) (hy : rd F y = .int ik (j : Int)) (hj : j < n) (h : K (.rop (cs.drop (j * k))) S) : vcOp P F S K (.iaddr k (some n) x y) := by
  refine rdK_iff.2 (rdK_iff.2 ?_); rw [hx, hy]; exact ⟨j, rfl, hj, h⟩
theorem o_indexS {s : List UInt8} {c : UInt8} {ik : IntKind} (hx : rd F x = .str s) (hy : rd F y = .int ik (j : Int)) (hj : s[j]? = some c) (h : K (.int .u8 (c.toNat : Int)) S) : vcOp P F S K (.index k none ag x y) := by
  refine rdK_iff.2 (rdK_iff.2 ?_); rw [hx, hy]; exact ⟨j, rfl, c, hj, h⟩
theorem o_indexA {ik : IntKind} (hx : rd F x = .agg cs) (hy : rd F y = .int ik (j : Int)) (hj : j < n) (ht : takeN k (cs.drop (j * k)) = some xs) (hm : mkF ag xs = some r) (h : K r S) : vcOp P F S K (.index k (some n) ag x y) := by
  refine rdK_iff.2 (rdK_iff.2 ?_); rw [hx, hy]; exact ⟨j, rfl, hj, xs, ht, mkF_ok hm h⟩
def lenF : Bool → AVal → Option Nat
  | true, .str s => some s.length
  | false, .ros n _ => some n
  | false, .sl _ _ _ n => some n
  | false, .nils => some 0
  | _, _ => none
theorem o_len {b : Bool} (hx : lenF b (rd F x) = some n) (h : K (.int .i64 (n : Int)) S) : vcOp P F S K (.len b x) := by
  refine rdK_iff.2 ?_
  generalize rd F x = X at *
  cases b <;> cases X <;> simp only [lenF, Option.some.injEq] at hx <;> first | (cases hx; done) | (subst hx; exact h)
/-- What is appended. -/
def SrcOf (m : HM) (k : Nat) (x : AVal) (n : Nat) (ys : List AVal) : Prop :=
  match x with
  | .nils => n = 0 ∧ ys = []
  | .ros n' cs => n = n' ∧ n * k ≤ cs.length ∧ ys = cs.take (n * k)
  | .sl l v off n' => n = n' ∧ ∃ cs f o, At m l o f ∧ o = .row v k cs ∧ off + n * k ≤ cs.length ∧ ys = subL cs off (n * k)
  | .str s => k = 1 ∧ n = s.length ∧ ys = s.map fun c => .int .u8 c.toNat
  | _ => False
theorem SrcOf.ok {X : AVal} (hS : Has S m) {K : Nat → List AVal → Prop} (h : SrcOf m k X n ys) (hk : K n ys) : wSrc S k X K := by
  cases X <;> simp only [SrcOf] at h <;> first | exact h.elim | skip
  · obtain ⟨h1, rfl, rfl⟩ := h; exact ⟨h1, hk⟩
  · obtain ⟨rfl, rfl⟩ := h; exact hk
  · obtain ⟨rfl, cs, f, o, hi, ho, h1, rfl⟩ := h; exact hS.row ho ⟨h1, hk⟩
  · obtain ⟨rfl, h1, rfl⟩ := h; exact ⟨h1, hk⟩
theorem o_appendN {b : Nat} (hS : Has S m) (hx : rd F x = .nils) (hy : SrcOf m k (rd F y) n ys) (hb : n * b ≤ 140737488355328) (h : ∀ v l S', Has S' (pt l (.row v k ys) + m) → K (.sl l v 0 n) S') : vcOp P F S K (.append k b x y) := by
  refine rdK_iff.2 (rdK_iff.2 (hy.ok hS ?_)); rw [hx]; exact ⟨hb, fun v => hS.wpush fun l S' => h v l S'⟩
theorem o_append {b len : Nat} (hS : Has S m) (hx : rd F x = .sl l v off len) (hy : SrcOf m k (rd F y) n ys) [i : At m l o f] (ho : o = .row v k cs) (hle : off + len * k ≤ cs.length) (hb : (len + n) * b ≤ 140737488355328) (h : ∀ v' S', Has S' (f (.row v' k (subL cs off (len * k) ++ ys))) → K (.sl l v' 0 (len + n)) S') : vcOp P F S K (.append k b x y) := by
  refine rdK_iff.2 (rdK_iff.2 (hy.ok hS ?_)); rw [hx]; exact hS.row ho ⟨rfl, hle, hb, fun v' => hS.wset fun S' => h v' S'⟩
theorem rdsK_of {xs : List Rand} {K : List AVal → Prop} (h : K (xs.map (rd F))) : rdsK F xs K := rdsK_iff.2 h
theorem o_mkfunc {g : Fn} {a b : List Rand} (h : K (.fn g (a.map (rd F)) (b.map (rd F))) S) : vcOp P F S K (.mkfunc g a b) := rdsK_of (rdsK_of h)
theorem o_extract (hx : rd F x = .tup xs) (hj : xs.drop j = r :: ys) (h : K r S) : vcOp P F S K (.extract x j) := by
  refine rdK_iff.2 ?_; rw [hx]; refine dropK_iff.2 ?_; rw [hj]; exact h
theorem o_call {g : FuncId} {as : List Rand} (h : ACalls P g (as.map (rd F)) S K) : vcOp P F S K (.call g as) := rdsK_of h
theorem o_callv {g : FuncId} {as : List Rand} {cap : List AVal} (hx : rd F x = .fn (.func g) [] cap) (h : ACalls P g (as.map (rd F) ++ cap) S K) : vcOp P F S K (.callv x as) := by
  refine rdK_iff.2 ?_; rw [hx]; exact ⟨trivial, rdsK_of h⟩
theorem o_isnilN {neg : Bool} (hx : rd F x = .nils) (h : K (.bool (!neg)) S) : vcOp P F S K (.isnil neg x) := by refine rdK_iff.2 ?_; rw [hx]; exact h
theorem o_isnil {neg : Bool} (hx : rd F x = .sl l v off n) (h : ∀ b : Bool, (b = true → n = 0) → K (.bool (b != neg)) S) : vcOp P F S K (.isnil neg x) := by refine rdK_iff.2 ?_; rw [hx]; exact h
theorem o_isnilR {neg : Bool} (hx : rd F x = .ros n cs) (h : ∀ b : Bool, (b = true → n = 0) → K (.bool (b != neg)) S) : vcOp P F S K (.isnil neg x) := by refine rdK_iff.2 ?_; rw [hx]; exact h
end
/-! ### Regions -/
section
variable {P : Program} {F : Frame} {S : Store} {K : Frame → Store → Prop} {d : Option Nat} {op : SOp} {g : Bool} {chk : List (Nat × Nat × Bool × Rand)} {rest : List GOp} {gd j : Nat} {w : Bool} {xs : List AVal}
theorem r_nil (h : K F S) : vcOps P K [] F S := h
theorem r_op (h : vcOp P F S (fun x S' => splitG g x fun x => vcOps P K rest (putF F d x) S') op) : vcOps P K (⟨d, op, none, g, chk⟩ :: rest) F S := h
theorem r_tt (hg : F.get gd = .tt) (h : vcOp P F S (fun x S' => splitG g x fun x => vcOps P K rest (putF F d x) S') op) : vcOps P K (⟨d, op, some (gd, true), g, chk⟩ :: rest) F S := by
  refine getK_iff.2 ?_; rw [hg]; exact h
theorem r_ff (hg : F.get gd = .ff) (h : vcOp P F S (fun x S' => splitG g x fun x => vcOps P K rest (putF F d x) S') op) : vcOps P K (⟨d, op, some (gd, false), g, chk⟩ :: rest) F S := by
  refine getK_iff.2 ?_; rw [hg]; exact h
theorem r_st (hg : F.get gd = .ff) (h : vcOps P K rest (putF F d (.tup [])) S) : vcOps P K (⟨d, op, some (gd, true), g, chk⟩ :: rest) F S := by
  refine getK_iff.2 ?_; rw [hg]; exact h
theorem r_sf (hg : F.get gd = .tt) (h : vcOps P K rest (putF F d (.tup [])) S) : vcOps P K (⟨d, op, some (gd, false), g, chk⟩ :: rest) F S := by
  refine getK_iff.2 ?_; rw [hg]; exact h
theorem r_su (hg : F.get gd = .tup xs) (h : vcOps P K rest (putF F d (.tup [])) S) : vcOps P K (⟨d, op, some (gd, w), g, chk⟩ :: rest) F S := by
  refine getK_iff.2 ?_; rw [hg]; exact h
theorem d_zero {l : List GOp} (h : vcOps P K l F S) : vcOpsD P K 0 l F S := h
theorem d_nil (h : K F S) : vcOpsD P K (j + 1) [] F S := h
theorem d_op (h : vcOpD P F S (fun x S' => splitG g x fun x => vcOpsD P K j rest (putF F d x) S') op) : vcOpsD P K (j + 1) (⟨d, op, none, g, chk⟩ :: rest) F S := h
theorem d_tt (hg : F.get gd = .tt) (h : vcOpD P F S (fun x S' => splitG g x fun x => vcOpsD P K j rest (putF F d x) S') op) : vcOpsD P K (j + 1) (⟨d, op, some (gd, true), g, chk⟩ :: rest) F S := by
  refine getK_iff.2 ?_; rw [hg]; exact h
theorem d_ff (hg : F.get gd = .ff) (h : vcOpD P F S (fun x S' => splitG g x fun x => vcOpsD P K j rest (putF F d x) S') op) : vcOpsD P K (j + 1) (⟨d, op, some (gd, false), g, chk⟩ :: rest) F S := by
  refine getK_iff.2 ?_; rw [hg]; exact h
theorem d_st (hg : F.get gd = .ff) (h : vcOpsD P K j rest (putF F d (.tup [])) S) : vcOpsD P K (j + 1) (⟨d, op, some (gd, true), g, chk⟩ :: rest) F S := by
  refine getK_iff.2 ?_; rw [hg]; exact h
theorem d_sf (hg : F.get gd = .tt) (h : vcOpsD P K j rest (putF F d (.tup [])) S) : vcOpsD P K (j + 1) (⟨d, op, some (gd, false), g, chk⟩ :: rest) F S := by
  refine getK_iff.2 ?_; rw [hg]; exact h
theorem d_su (hg : F.get gd = .tup xs) (h : vcOpsD P K j rest (putF F d (.tup [])) S) : vcOpsD P K (j + 1) (⟨d, op, some (gd, w), g, chk⟩ :: rest) F S := by
  refine getK_iff.2 ?_; rw [hg]; exact h
theorem s_no {x : AVal} {K : AVal → Prop} (h : K x) : splitG false x K := h
theorem s_dec {p : Prop} [Decidable p] {K : AVal → Prop} (ht : p → K .tt) (hf : ¬ p → K .ff) : splitG true (.bool (decide p)) K := ⟨fun h => ht (of_decide_eq_true h), fun h => hf (of_decide_eq_false h)⟩
theorem s_ndec {p : Prop} [Decidable p] {K : AVal → Prop} (ht : ¬ p → K .tt) (hf : p → K .ff) : splitG true (.bool (!decide p)) K := ⟨fun h => ht (by simpa using h), fun h => hf (by simpa using h)⟩
theorem s_bool {b : Bool} {K : AVal → Prop} (ht : b = true → K .tt) (hf : b = false → K .ff) : splitG true (.bool b) K := ⟨ht, hf⟩
end
section
variable {P : Program} {F : Frame} {S : Store} {K : AVal → Store → Prop}
theorem q_op {so : SOp} (hq : (match so with | .call _ _ => false | .callv _ _ => false | _ => true) = true) (h : vcOp P F S K so) : vcOpD P F S K so := by
  cases so <;> first | exact h | (simp at hq)
theorem q_call {g : FuncId} {as : List Rand} (r0 : AVal) (h : ACalls P g (as.map (rd F)) S (fun r S' => r = r0 ∧ S' = S)) (hk : K r0 S) : vcOpD P F S K (.call g as) := rdsK_iff.2 ⟨r0, h, hk⟩
end
/-! ### Code -/
section
variable {P : Program} {F : Frame} {S : Store} {Q : SExit → Frame → Store → Prop} {a b : SCode} {x : Rand} {keep W : List Nat} {n id : Nat} {l : List GOp}
theorem c_ops {ks : List Nat} (h : vcOps P (fun F' S' => onlyK ks F' fun F'' => Q .normal F'' S') l F S) : vc P (.ops l none ks) Q F S := h
theorem c_opsD {d : Nat × Nat × List Nat} {ks : List Nat} (h : vcOpsD P (fun F' S' => onlyK ks F' fun F'' => Q .normal F'' S') d.1 l F (S ++ List.replicate d.2.1 .dead)) : vc P (.ops l (some d) ks) Q F S := h
theorem c_opsD0 {m : HM} {j : Nat} {π ks : List Nat} (hS : Has S m) (h : ∀ S', Has S' m → vcOpsD P (fun F' S' => onlyK ks F' fun F'' => Q .normal F'' S') j l F S') : vc P (.ops l (some (j, 0, π)) ks) Q F S := c_opsD (h _ (hS.deads _))
theorem c_seq (h : vc P a (SExit.onNormal (vc P b Q) Q) F S) : vc P (.seq a b) Q F S := h
theorem c_skip (h : Q .normal F S) : vc P .skip Q F S := h
theorem c_ret (h : Q .ret F S) : vc P .ret Q F S := h
theorem c_exit (h : Q (.exit id) F S) : vc P (.exit id) Q F S := h
theorem c_block (h : vc P a (SExit.onBlock id Q) F S) : vc P (.block id a) Q F S := h
theorem c_tt (hx : rd F x = .tt) (h : vc P a Q F S) : vc P (.cond x a b) Q F S := by refine rdK_iff.2 ?_; rw [hx]; exact h
theorem c_ff (hx : rd F x = .ff) (h : vc P b Q F S) : vc P (.cond x a b) Q F S := by refine rdK_iff.2 ?_; rw [hx]; exact h
theorem c_dec {p : Prop} [Decidable p] (hx : rd F x = .bool (decide p)) (ht : p → vc P a Q F S) (hf : ¬ p → vc P b Q F S) : vc P (.cond x a b) Q F S := by
  refine rdK_iff.2 ?_; rw [hx]; exact ⟨fun h => ht (of_decide_eq_true h), fun h => hf (of_decide_eq_false h)⟩
theorem c_ndec {p : Prop} [Decidable p] (hx : rd F x = .bool (!decide p)) (ht : ¬ p → vc P a Q F S) (hf : p → vc P b Q F S) : vc P (.cond x a b) Q F S := by
  refine rdK_iff.2 ?_; rw [hx]; exact ⟨fun h => ht (by simpa using h), fun h => hf (by simpa using h)⟩
theorem c_bool {c : Bool} (hx : rd F x = .bool c) (ht : c = true → vc P a Q F S) (hf : c = false → vc P b Q F S) : vc P (.cond x a b) Q F S := by
  refine rdK_iff.2 ?_; rw [hx]; exact ⟨ht, hf⟩
theorem c_keep {ks : List Nat} {K : Frame → Prop} (h : K (ks.map fun t => (t, F.get t))) : onlyK ks F K := onlyK_iff.2 h
/-- Where ways meet again: both go on behind it alike. -/
theorem c_join (h : ∀ K : List AVal → Store → Prop, (∀ xs os, xs.length = W.length → vc P b Q (zipF W xs (keep.map fun t => (t, F.get t))) os → K xs os) → vc P a (SExit.onNormal (fun F' S' => K (W.map F'.get) S') Q) F S) : vc P (.join keep W n a b) Q F S := by
  intro K hK
  have hK' := onlyK_iff.1 hK
  have := h K fun xs os hl hv => (allA_iff.1 hK') xs hl os hv
  have e : (fun F' S' => getsK W F' fun xs => K xs S') = fun F' S' => K (W.map F'.get) S' := by funext F' S'; exact propext getsK_iff
  rw [e]; exact this
theorem c_loop (I : Nat → List AVal → Store → Prop) (k : Nat) (h0 : I k (W.map F.get) S) (h : ∀ k xs os, xs.length = W.length → I k xs os → vc P a (SExit.onNormal (fun F' S' => ∃ k', k' < k ∧ I k' (W.map F'.get) S') Q) (zipF W xs (keep.map fun t => (t, F.get t))) os) : vc P (.loop keep W n a) Q F S := by
  refine ⟨I, getsK_iff.2 ⟨k, h0⟩, onlyK_iff.2 (allA_iff.2 fun xs hl k os hI => ?_)⟩
  have := h k xs os hl hI
  have e : (fun F' S' => getsK W F' fun ys => ∃ k', k' < k ∧ I k' ys S') = fun F' S' => ∃ k', k' < k ∧ I k' (W.map F'.get) S' := by funext F' S'; exact propext getsK_iff
  rw [e]; exact this
theorem on_n {N : Frame → Store → Prop} (h : N F S) : SExit.onNormal N Q .normal F S := h
theorem on_r {N : Frame → Store → Prop} (h : Q .ret F S) : SExit.onNormal N Q .ret F S := h
theorem on_e {N : Frame → Store → Prop} (h : Q (.exit id) F S) : SExit.onNormal N Q (.exit id) F S := h
theorem ob_n (h : Q .normal F S) : SExit.onBlock id Q .normal F S := h
theorem ob_r (h : Q .ret F S) : SExit.onBlock id Q .ret F S := h
theorem ob_e (h : Q .normal F S) : SExit.onBlock id Q (.exit id) F S := by simp only [SExit.onBlock, Nat.beq_refl]; exact h
theorem ob_x {j : Nat} (hn : Nat.beq j id = false) (h : Q (.exit j) F S) : SExit.onBlock id Q (.exit j) F S := by simp only [SExit.onBlock, hn]; exact h
end
/-! ### Results -/
def resF (F : Frame) : List RRes → Option (List AVal)
  | [] => some []
  | .tmp t :: rs => (match resF F rs with | some xs => some (F.get t :: xs) | none => none)
  | _ => none
theorem resF_ok {F : Frame} {S : Store} : ∀ {rs : List RRes} {xs : List AVal} {K : List AVal → Prop}, resF F rs = some xs → K xs → wRes F S K rs
  | [], xs, K, h, hk => by simp only [resF] at h; cases h; exact hk
  | .tmp t :: rs, xs, K, h, hk => by
    simp only [resF] at h
    split at h
    · rename_i ys hy
      cases h
      exact getK_iff.2 (resF_ok hy hk)
    · cases h
  | .cell _ _ _ :: rs, xs, K, h, hk => by simp [resF] at h
theorem w_nil {F : Frame} {S : Store} {K : List AVal → Prop} (h : K []) : wRes F S K [] := h
theorem w_tmp {F : Frame} {S : Store} {K : List AVal → Prop} {t : Nat} {rs : List RRes} (h : wRes F S (fun xs => K (F.get t :: xs)) rs) : wRes F S K (.tmp t :: rs) := getK_iff.2 h
theorem w_cell {F : Frame} {S : Store} {K : List AVal → Prop} {t n : Nat} {ag : Bool} {rs : List RRes} {m : HM} {l v off k : Nat} {o : Ob} {f : Ob → HM} {cs xs : List AVal} {r : AVal} (hS : Has S m) (hx : F.get t = .ptr l v off) [i : At m l o f] (ho : o = .row v k cs) (ht : takeN n (cs.drop off) = some xs) (hm : mkF ag xs = some r) (h : wRes F S (fun xs => K (r :: xs)) rs) : wRes F S K (.cell t n ag :: rs) := by
  refine getK_iff.2 ?_
  rw [hx]
  refine hS.row ho ?_
  cases k with
  | zero => exact dropK_iff.2 (takeK_iff.2 ⟨xs, ht, mkF_ok hm h⟩)
  | succ k => exact ⟨xs, ht, mkF_ok hm h⟩
end Go.Vc
