/-
  The simplified code, and its verification conditions: predicates on abstract values and the owned store. No world stands here.
-/
import Derived.Test.YtkemhbclkglmbaaVxB
import Derived.Lib.Bytealg
set_option linter.unusedVariables false
namespace Go.Vc

abbrev Frame := List (Nat × AVal)
def Frame.get : Frame → Nat → AVal
  | [], _ => .junk
  | (k, x) :: F, n => match Nat.beq k n with | true => x | false => Frame.get F n

inductive Rand where
  | t (n : Nat)
  | c (x : AVal)
  deriving Inhabited

def getK : Frame → Nat → (AVal → Prop) → Prop
  | [], _, K => K .junk
  | (k, x) :: F, n, K => match Nat.beq k n with | true => K x | false => getK F n K

def rd (F : Frame) : Rand → AVal
  | .t n => F.get n
  | .c x => x
def rdK (F : Frame) (x : Rand) (K : AVal → Prop) : Prop := match x with | .t n => getK F n K | .c x => K x
def rdsK (F : Frame) (xs : List Rand) (K : List AVal → Prop) : Prop :=
  match xs with | [] => K [] | x :: xs => rdK F x fun v => rdsK F xs fun vs => K (v :: vs)

/-! ### Reading an abstract value by its shape -/
def wInt (x : AVal) (K : IntKind → Int → Prop) : Prop := match x with | .int k n => K k n | _ => False
def wBool (x : AVal) (K : Bool → Prop) : Prop := match x with | .bool b => K b | .tt => K true | .ff => K false | _ => False
def wIdx (x : AVal) (K : Nat → Prop) : Prop := match x with | .int _ n => ∃ j : Nat, n = (j : Int) ∧ K j | _ => False
def wStr (x : AVal) (K : List UInt8 → Prop) : Prop := match x with | .str s => K s | _ => False

/-- The cells of a value as they are stored; a scalar is one cell. -/
def wCells (x : AVal) (K : List AVal → Prop) : Prop :=
  match x with | .agg cs => K cs | .tup _ => False | .junk => False | .cst _ => False | x => K [x]

def takeN : Nat → List AVal → Option (List AVal)
  | 0, _ => some []
  | n + 1, x :: xs => match takeN n xs with | some ys => some (x :: ys) | none => none
  | _ + 1, [] => none

def over : List AVal → List AVal → List AVal
  | [], _ => []
  | cs, [] => cs
  | _ :: cs, y :: ys => y :: over cs ys

def setCells : List AVal → Nat → List AVal → List AVal
  | cs, 0, ys => over cs ys
  | [], _ + 1, _ => []
  | c :: cs, n + 1, ys => c :: setCells cs n ys

def wSet (S : Store) (l : Nat) (o : Ob) (K : Store → Prop) : Prop :=
  match S, l with
  | [], _ => False
  | _ :: S, 0 => K (o :: S)
  | a :: S, l + 1 => wSet S l o (fun S' => K (a :: S'))

def wGet (S : Store) (l : Nat) (K : Ob → Prop) : Prop :=
  match S, l with
  | [], _ => False
  | o :: _, 0 => K o
  | _ :: S, l + 1 => wGet S l K

def overK : List AVal → List AVal → (List AVal → Prop) → Prop
  | [], _, K => K []
  | c :: cs, [], K => K (c :: cs)
  | _ :: cs, y :: ys, K => overK cs ys fun zs => K (y :: zs)
def setCellsK : List AVal → Nat → List AVal → (List AVal → Prop) → Prop
  | cs, 0, ys, K => overK cs ys K
  | [], _ + 1, _, K => K []
  | c :: cs, n + 1, ys, K => setCellsK cs n ys fun zs => K (c :: zs)
/-- Cells put into a row; those of a variable (k = 0) are written out at once. -/
def setRowK (k : Nat) (cs : List AVal) (off : Nat) (ys : List AVal) (K : List AVal → Prop) : Prop :=
  match k with | 0 => setCellsK cs off ys K | _ + 1 => K (setCells cs off ys)
def dropK : Nat → List AVal → (List AVal → Prop) → Prop
  | 0, cs, K => K cs
  | n + 1, _ :: cs, K => dropK n cs K
  | _ + 1, [], K => K []
def takeK : Nat → List AVal → (List AVal → Prop) → Prop
  | 0, _, K => K []
  | n + 1, x :: xs, K => takeK n xs fun ys => K (x :: ys)
  | _ + 1, [], _ => False
def mkVK (ag : Bool) (xs : List AVal) (K : AVal → Prop) : Prop :=
  match ag with | true => K (.agg xs) | false => match xs with | [x] => K x | _ => False

/-- The row at a place, at this version. -/
def wRow (S : Store) (l v : Nat) (K : Nat → List AVal → Prop) : Prop :=
  wGet S l fun o => match o with | .row v' k cs => v = v' ∧ K k cs | _ => False

/-- n cells from a pointer on, as a value. -/
def wLoad (S : Store) (n : Nat) (ag : Bool) (x : AVal) (K : AVal → Prop) : Prop :=
  match x with
  | .rop cs => takeK n cs fun xs => mkVK ag xs K
  | .ptr l v off => wRow S l v fun k cs => match k with
    | 0 => dropK off cs fun ds => takeK n ds fun xs => mkVK ag xs K
    | _ + 1 => ∃ xs, takeN n (cs.drop off) = some xs ∧ mkVK ag xs K
  | _ => False

/-- Parts put into cells: (offset, size, value). -/
def wFill (F : Frame) (cs : List AVal) (K : List AVal → Prop) : List (Nat × Nat × Rand) → Prop
  | [] => K cs
  | (off, n, x) :: rest => rdK F x fun x => wCells x fun ys => ys.length = n ∧ off + n ≤ cs.length ∧ setCellsK cs off ys fun cs' => wFill F cs' K rest

def inI64 (n : Int) : Prop := -9223372036854775808 ≤ n ∧ n ≤ 9223372036854775807

/-- An integer result of a kind: of int nothing may be lost; of the others it is wrapped. -/
def wMk (k : IntKind) (n : Int) (K : AVal → Prop) : Prop :=
  match k with | .i64 => inI64 n ∧ K (.int .i64 n) | k => K (.int k (k.wrap n))

def intBin (op : BinOp) (k : IntKind) (a b : Int) (K : AVal → Prop) : Prop :=
  match op with
  | .add => wMk k (a + b) K
  | .sub => wMk k (a - b) K
  | .mul => wMk k (a * b) K
  | .quo => b ≠ 0 ∧ wMk k (a.tdiv b) K
  | .rem => b ≠ 0 ∧ K (.int k (a.tmod b))
  | .eql => K (.bool (decide (a = b)))
  | .neq => K (.bool (!decide (a = b)))
  | .lss => K (.bool (decide (a < b)))
  | .leq => K (.bool (decide (a ≤ b)))
  | .gtr => K (.bool (decide (b < a)))
  | .geq => K (.bool (decide (b ≤ a)))
  | .and => K (.int k (k.wrap ((BitVec.ofInt k.bits a) &&& (BitVec.ofInt k.bits b)).toNat))
  | .or => K (.int k (k.wrap ((BitVec.ofInt k.bits a) ||| (BitVec.ofInt k.bits b)).toNat))
  | .xor => K (.int k (k.wrap ((BitVec.ofInt k.bits a) ^^^ (BitVec.ofInt k.bits b)).toNat))
  | _ => False

def strBin (op : BinOp) (a b : List UInt8) (K : AVal → Prop) : Prop :=
  match op with
  | .add => inI64 (a.length + b.length) ∧ K (.str (a ++ b))
  | .eql => K (.bool (decide (a = b)))
  | .neq => K (.bool (!decide (a = b)))
  | .lss => K (.bool (Op.bytesLess a b))
  | .leq => K (.bool (Op.bytesLess a b || decide (a = b)))
  | .gtr => K (.bool (!(Op.bytesLess a b || decide (a = b))))
  | .geq => K (.bool (!Op.bytesLess a b))
  | _ => False

inductive FK where
  | int
  | str
  | bool
  deriving Inhabited

/-- Cells held against cells, by the kinds of the fields. -/
def cellsEq : List FK → List AVal → List AVal → (Bool → Prop) → Prop
  | [], [], [], K => K true
  | .int :: ks, .int k a :: xs, .int k' b :: ys, K => k = k' ∧ cellsEq ks xs ys fun r => K (decide (a = b) && r)
  | .str :: ks, .str a :: xs, .str b :: ys, K => cellsEq ks xs ys fun r => K (decide (a = b) && r)
  | .bool :: ks, .bool a :: xs, .bool b :: ys, K => cellsEq ks xs ys fun r => K (decide (a = b) && r)
  | _, _, _, _ => False

def eqK (op : BinOp) (r : Bool) (K : AVal → Prop) : Prop :=
  match op with | .eql => K (.bool r) | .neq => K (.bool (!r)) | _ => False

/-- By what an equality of the type goes (integers and strings go by themselves). -/
inductive EqQ where
  | none
  | bool
  | ptr
  | agg (ks : List FK)
  | func
  | map
  deriving Inhabited

def vcBin (q : EqQ) (op : BinOp) (x y : AVal) (K : AVal → Prop) : Prop :=
  match x, y with
  | .int k a, .int k' b =>
    match op with
    | .shl => 0 ≤ b ∧ wMk k (a * 2 ^ (min b.toNat k.bits)) K
    | .shr => 0 ≤ b ∧ K (.int k (a.fdiv (2 ^ (min b.toNat k.bits))))
    | op => k = k' ∧ intBin op k a b K
  | .str a, .str b => strBin op a b K
  | .bool a, .bool b => match q with | .bool => eqK op (decide (a = b)) K | _ => False
  | .agg xs, .agg ys => match q with | .agg ks => cellsEq ks xs ys fun r => eqK op r K | _ => False
  | .nilp, .nilp => match q with | .ptr => eqK op true K | _ => False
  | .ptr _ _ _, .nilp => match q with | .ptr => eqK op false K | _ => False
  | .nilp, .ptr _ _ _ => match q with | .ptr => eqK op false K | _ => False
  | .rop _, .nilp => match q with | .ptr => eqK op false K | _ => False
  | .nilp, .rop _ => match q with | .ptr => eqK op false K | _ => False
  | .nilf, .nilf => match q with | .func => eqK op true K | _ => False
  | .fn _ _ _, .nilf => match q with | .func => eqK op false K | _ => False
  | .nilm, .nilm => match q with | .map => eqK op true K | _ => False
  | .map _ _, .nilm => match q with | .map => eqK op false K | _ => False
  | _, _ => False

def subL (cs : List AVal) (off n : Nat) : List AVal := (cs.drop off).take n

def callable (P : Program) (f : FuncId) : Bool := match P.funcs[f]? with | some fn => fn.body.isSome && fn.name != "runtime.NumGoroutine" | none => false
/-- A call of a function with a body, or of one that the model itself answers. -/
def XCalls (P : Program) (f : FuncId) (args : Array Value) (w : World) (R : Ending → World → Prop) : Prop :=
  (callable P f = true ∧ Calls P f args w R) ∨ ∃ v w', (callFunc f args).run P w = .ok (.value v) w' ∧ R (.returned v) w'
theorem XCalls.mono {P : Program} {f : FuncId} {args : Array Value} {w : World} {R R' : Ending → World → Prop} (h : XCalls P f args w R) (hr : ∀ e w', R e w' → R' e w') : XCalls P f args w R' :=
  match h with
  | .inl ⟨a, h⟩ => .inl ⟨a, h.mono hr⟩
  | .inr ⟨v, w', h1, h2⟩ => .inr ⟨v, w', h1, hr _ _ h2⟩
/-- A function's contract over the abstract store. -/
structure ACalls (P : Program) (f : FuncId) (args : List AVal) (S : Store) (R : AVal → Store → Prop) : Prop where
  out : ∀ E fz w vals, St E fz S w → RelL E fz w args vals →
    XCalls P f vals.toArray w fun e w' => ∃ r S' v E' fz', e = .returned v ∧ Ext E fz S w E' fz' S' w' ∧ St E' fz' S' w' ∧ Rel E' fz' w' r v ∧ R r S'

/-- Functions without a body in Go: the first place of a byte, how often it stands there. -/
inductive ExtK where
  | idxb
  | cnt
  deriving Inhabited

def vcExt (k : ExtK) (xs : List AVal) (K : AVal → Prop) : Prop :=
  match k, xs with
  | .idxb, [.str s, .int .u8 c] => K (.int .i64 (Lib.indexByte s c.toNat.toUInt8))
  | .cnt, [.str s, .int .u8 c] => K (.int .i64 (Lib.countByte s c.toNat.toUInt8 : Nat))
  | _, _ => False

inductive SOp where
  | mov (x : Rand)
  | newnil (k : Nat)
  | pick (c a b : Rand)
  | alloc (k : Nat) (z : List AVal)
  | box (k : Nat) (x : Rand)
  | build (z : List AVal) (parts : List (Nat × Nat × Rand))
  | bslice (ro : Bool) (len k : Nat) (z : List AVal) (parts : List (Nat × Nat × Rand))
  | load (n : Nat) (ag : Bool) (x : Rand)
  | store (n : Nat) (x v : Rand)
  | nilchk (x : Rand)
  | bin (q : EqQ) (op : BinOp) (x y : Rand)
  | strid (x : Rand)
  | not (x : Rand)
  | neg (x : Rand)
  | conv (k : IntKind) (x : Rand)
  | mkslice (k bytes : Nat) (z : List AVal) (len cap : Rand)
  | slice (k : Nat) (x : Rand) (lo hi : Option Rand)
  | faddr (off : Nat) (x : Rand)
  | field (off n : Nat) (ag : Bool) (x : Rand)
  | iaddr (k : Nat) (arr : Option Nat) (x i : Rand)
  | index (k : Nat) (arr : Option Nat) (ag : Bool) (x i : Rand)
  | len (str : Bool) (x : Rand)
  | append (k bytes : Nat) (s x : Rand)
  | min (xs : List Rand)
  | max (xs : List Rand)
  | mkfunc (f : Fn) (first cap : List Rand)
  | extract (x : Rand) (i : Nat)
  | ext (k : ExtK) (args : List Rand)
  | call (f : FuncId) (args : List Rand)
  | callv (x : Rand) (args : List Rand)
  | bad
  | isnil (neg : Bool) (x : Rand)
  | mkres (d k bytes : Nat) (z : List AVal) (len cap : Rand)
  | clear (k : Nat) (z : List AVal) (x : Rand)
  | s2b (x : Rand)
  | b2s (x : Rand)
  | mark (x : Rand)
  | again (t n : Nat) (ag : Bool) (x : Rand)
  | alres (d k : Nat) (z : List AVal)
  | mkif (t : TypeId) (x : Rand)
  | slice3 (k : Nat) (x h m : Rand)
  deriving Inhabited

def wSrc (S : Store) (k : Nat) (x : AVal) (K : Nat → List AVal → Prop) : Prop :=
  match x with
  | .nils => K 0 []
  | .ros n cs => n * k ≤ cs.length ∧ K n (cs.take (n * k))
  | .sl l v off n => wRow S l v fun _ cs => off + n * k ≤ cs.length ∧ K n (subL cs off (n * k))
  | .str s => k = 1 ∧ K s.length (s.map fun c => .int .u8 c.toNat)
  | _ => False

def wLo (F : Frame) (x : Option Rand) (K : Nat → Prop) : Prop := match x with | none => K 0 | some r => rdK F r fun x => wIdx x K
def wHi (F : Frame) (n : Nat) (x : Option Rand) (K : Nat → Prop) : Prop := match x with | none => K n | some r => rdK F r fun x => wIdx x K

def vcMin (a : AVal) (K : AVal → Prop) : List AVal → Prop
  | [] => K a
  | b :: rest => match a, b with | .int k x, .int k' y => k = k' ∧ vcMin (.int k (Min.min x y)) K rest | _, _ => False
def vcMax (a : AVal) (K : AVal → Prop) : List AVal → Prop
  | [] => K a
  | b :: rest => match a, b with | .int k x, .int k' y => k = k' ∧ vcMax (.int k (Max.max x y)) K rest | _, _ => False

/-- Behind the store a new object, at the next place. -/
def wPush (S : Store) (o : Ob) (K : Nat → Store → Prop) : Prop :=
  match S with
  | [] => K 0 [o]
  | a :: S => wPush S o fun n S' => K (n + 1) (a :: S')

/-- Bytes that stand in cells. -/
def byteCells (ys : List AVal) (K : List UInt8 → Prop) : Prop := ∃ ns : List Int, ys = ns.map (AVal.int .u8) ∧ K (ns.map fun n => UInt8.ofNat n.toNat)
def wBytes (S : Store) (x : AVal) (K : List UInt8 → Prop) : Prop :=
  match x with
  | .nils => K []
  | .ros n cs => n ≤ cs.length ∧ byteCells (cs.take n) K
  | .sl l v off n => wRow S l v fun _ cs => off + n ≤ cs.length ∧ byteCells (subL cs off n) K
  | _ => False

def vcOp (P : Program) (F : Frame) (S : Store) (K : AVal → Store → Prop) : SOp → Prop
  | .mov x => rdK F x fun x => K x S
  | .newnil k => ∀ v, wPush S (.row v k []) fun l S' => K (.sl l v 0 0) S'
  | .pick c a b => rdK F c fun c => match c with
    | .tt => rdK F a fun x => K x S
    | .ff => rdK F b fun x => K x S
    | .bool c => (c = true → rdK F a fun x => K x S) ∧ (c = false → rdK F b fun x => K x S)
    | _ => False
  | .alloc k z => ∀ v, wPush S (.row v k z) fun l S' => K (.ptr l v 0) S'
  | .box k x => rdK F x fun x => wCells x fun cs => ∀ v, wPush S (.row v k cs) fun l S' => K (.ptr l v 0) S'
  | .build z parts => wFill F z (fun cs => K (.agg cs) S) parts
  | .bslice ro len k z parts => wFill F z (fun cs => match ro with
    | true => K (.ros len cs) S
    | false => ∀ v, wPush S (.row v k cs) fun l S' => K (.sl l v 0 len) S') parts
  | .load n ag x => rdK F x fun x => wLoad S n ag x fun r => K r S
  | .store n x v => rdK F x fun x => match x with
    | .ptr l ver off => wRow S l ver fun k cs => rdK F v fun v => wCells v fun ys => ys.length = n ∧ off + n ≤ cs.length ∧
        setRowK k cs off ys fun cs' => wSet S l (.row ver k cs') fun S' => K .junk S'
    | _ => False
  | .nilchk x => rdK F x fun x => match x with
    | .ptr l v off => K (.ptr l v off) S
    | .rop cs => K (.rop cs) S
    | .fn (.func f) a b => K (.fn (.func f) a b) S
    | .map l v => K (.map l v) S
    | _ => False
  | .bin q op x y => rdK F x fun x => rdK F y fun y => vcBin q op x y fun r => K r S
  | .strid x => rdK F x fun x => match x with | .str s => K (.str s) S | _ => False
  | .not x => rdK F x fun x => wBool x fun b => K (.bool (!b)) S
  | .neg x => rdK F x fun x => wInt x fun k n => wMk k (0 - n) fun r => K r S
  | .conv k x => rdK F x fun x => wInt x fun _ n => wMk k n fun r => K r S
  | .mkslice k bytes z len cap => rdK F len fun x => rdK F cap fun y => wIdx x fun n => y = x ∧ bytes * n ≤ 140737488355328 ∧
      ∀ v, wPush S (.row v k (List.replicate n z).flatten) fun l S' => K (.sl l v 0 n) S'
  | .slice k x lo hi => rdK F x fun x => match k with
    | 0 => match x with
      | .str s => wHi F s.length hi fun h => wLo F lo fun j => j ≤ h ∧ h ≤ s.length ∧ K (.str ((s.take h).drop j)) S
      | _ => False
    | k + 1 => match x with
      | .ros n cs => wHi F n hi fun h => wLo F lo fun j => j ≤ h ∧ h ≤ n ∧ n * (k + 1) ≤ cs.length ∧ K (.ros (h - j) (subL cs (j * (k + 1)) ((h - j) * (k + 1)))) S
      | .sl l v off n => wHi F n hi fun h => wLo F lo fun j => j ≤ h ∧ h ≤ n ∧ wRow S l v fun k' _ => k' = k + 1 ∧ K (.sl l v (off + j * (k + 1)) (h - j)) S
      | .nils => wHi F 0 hi fun h => wLo F lo fun j => j = 0 ∧ h = 0 ∧ K .nils S
      | _ => False
  | .faddr off x => rdK F x fun x => match x with
    | .ptr l v o => K (.ptr l v (o + off)) S
    | .rop cs => dropK off cs fun cs' => K (.rop cs') S
    | _ => False
  | .field off n ag x => rdK F x fun x => match x with
    | .agg cs => dropK off cs fun ds => takeK n ds fun xs => mkVK ag xs fun r => K r S
    | _ => False
  | .iaddr k arr x i => rdK F x fun x => rdK F i fun i => wIdx i fun j => match x, arr with
    | .ros n cs, none => j < n ∧ ∃ xs, takeN k (cs.drop (j * k)) = some xs ∧ K (.rop xs) S
    | .sl l v off n, none => j < n ∧ wRow S l v fun k' _ => k' = k ∧ K (.ptr l v (off + j * k)) S
    | .ptr l v off, some n => j < n ∧ K (.ptr l v (off + j * k)) S
    | .rop cs, some n => j < n ∧ K (.rop (cs.drop (j * k))) S
    | _, _ => False
  | .index k arr ag x i => rdK F x fun x => rdK F i fun i => wIdx i fun j => match x, arr with
    | .str s, none => ∃ c, s[j]? = some c ∧ K (.int .u8 (c.toNat : Int)) S
    | .agg cs, some n => j < n ∧ ∃ xs, takeN k (cs.drop (j * k)) = some xs ∧ mkVK ag xs fun r => K r S
    | _, _ => False
  | .len str x => rdK F x fun x => match str with
    | true => match x with
      | .str s => K (.int .i64 (s.length : Int)) S
      | _ => False
    | false => match x with
      | .ros n _ => K (.int .i64 (n : Int)) S
      | .sl _ _ _ n => K (.int .i64 (n : Int)) S
      | .nils => K (.int .i64 ((0 : Nat) : Int)) S
      | _ => False
  | .append k bytes s x => rdK F s fun s => rdK F x fun x => wSrc S k x fun n ys => match s with
    | .nils => n * bytes ≤ 140737488355328 ∧ ∀ v, wPush S (.row v k ys) fun l S' => K (.sl l v 0 n) S'
    | .sl l ver off len => wRow S l ver fun k' cs => k' = k ∧ off + len * k ≤ cs.length ∧ (len + n) * bytes ≤ 140737488355328 ∧
        ∀ v, wSet S l (.row v k (subL cs off (len * k) ++ ys)) fun S' => K (.sl l v 0 (len + n)) S'
    | _ => False
  | .min xs => rdsK F xs fun vs => match vs with | [] => False | x :: rest => vcMin x (fun r => K r S) rest
  | .max xs => rdsK F xs fun vs => match vs with | [] => False | x :: rest => vcMax x (fun r => K r S) rest
  | .mkfunc f first cap => rdsK F first fun xs => rdsK F cap fun ys => K (.fn f xs ys) S
  | .extract x i => rdK F x fun x => match x with | .tup xs => dropK i xs fun ds => (match ds with | y :: _ => K y S | [] => False) | _ => False
  | .ext k args => rdsK F args fun xs => vcExt k xs fun r => K r S
  | .call f args => rdsK F args fun xs => ACalls P f xs S K
  | .callv x args => rdK F x fun x => match x with | .fn (.func f) [] cap => True ∧ rdsK F args fun xs => ACalls P f (xs ++ cap) S K | _ => False
  | .bad => False
  | .isnil neg x => rdK F x fun x => match x with
    | .nils => K (.bool (!neg)) S
    | .ros n _ => ∀ b : Bool, (b = true → n = 0) → K (.bool (b != neg)) S
    | .sl _ _ _ n => ∀ b : Bool, (b = true → n = 0) → K (.bool (b != neg)) S
    | _ => False
  | .mkres d k bytes z len cap => rdK F len fun x => rdK F cap fun y => wIdx x fun n => y = x ∧ bytes * n ≤ 140737488355328 ∧ 0 < d ∧ d ≤ S.length ∧ S[S.length - d]? = some .dead ∧
      ∀ v, K (.sl (S.length - d) v 0 n) (S.set (S.length - d) (.row v k (List.replicate n z).flatten))
  | .alres d k z => 0 < d ∧ d ≤ S.length ∧ S[S.length - d]? = some .dead ∧ ∀ v, K (.ptr (S.length - d) v 0) (S.set (S.length - d) (.row v k z))
  | .mkif t x => rdK F x fun x => K (.iface t x) S
  | .slice3 k x h m => rdK F x fun x => rdK F h fun y => rdK F m fun z => wIdx y fun n => z = y ∧ match x with
    | .sl l v off len => n ≤ len ∧ wRow S l v fun k' _ => k' = k ∧ K (.sl l v off n) S
    | .nils => n = 0 ∧ K .nils S
    | _ => False
  | .clear k z x => rdK F x fun x => match x with
    | .nils => K .junk S
    | .sl l v off n => wRow S l v fun k' cs => k' = k ∧ off + n * k ≤ cs.length ∧ wSet S l (.row v k (setCells cs off (List.replicate n z).flatten)) fun S' => K .junk S'
    | _ => False
  | .s2b x => rdK F x fun x => match x with
    | .str s => ∀ v, wPush S (.row v 1 (s.map fun c => .int .u8 c.toNat)) fun l S' => K (.sl l v 0 s.length) S'
    | _ => False
  | .b2s x => rdK F x fun x => wBytes S x fun bs => K (.str bs) S
  | .mark x => rdK F x fun x => match x with | .sl l v off n => 0 < n ∧ wRow S l v fun _ _ => K (.sl l v off n) S | _ => False
  | .again t n ag x => rdK F x fun x => rdK F (.t t) fun y => wLoad S n ag x fun r => r = y ∧ K .junk S

/-- An operation in a region: where its value goes, the slot of its guard, whether it is a guard itself; which loads give behind it what their slots hold already. -/
structure GOp where
  dst : Option Nat
  op : SOp
  guard : Option (Nat × Bool)
  isG : Bool
  chk : List (Nat × Nat × Bool × Rand)
  deriving Inhabited

def againG (k : Nat × Nat × Bool × Rand) : GOp := ⟨none, .again k.1 k.2.1 k.2.2.1 k.2.2.2, none, false, []⟩
def expandG : List GOp → List GOp
  | [] => []
  | o :: l => o :: (o.chk.map againG ++ expandG l)
def realB (o : GOp) : Bool := match o.op with | .again _ _ _ _ => false | _ => true
def realG : List GOp → List GOp
  | [] => []
  | o :: l => match realB o with | true => o :: realG l | false => realG l

def putF (F : Frame) (d : Option Nat) (x : AVal) : Frame := match d with | some d => (d, x) :: F | none => F

/-- A guard's value is known from here on. -/
def splitG (isG : Bool) (x : AVal) (K : AVal → Prop) : Prop :=
  match isG with
  | false => K x
  | true => match x with
    | .bool b => (b = true → K .tt) ∧ (b = false → K .ff)
    | .tt => K .tt
    | .ff => K .ff
    | _ => False

def vcOps (P : Program) (K : Frame → Store → Prop) : List GOp → Frame → Store → Prop
  | [], F, S => K F S
  | o :: rest, F, S =>
    match o.guard with
    | none => vcOp P F S (fun x S' => splitG o.isG x fun x => vcOps P K rest (putF F o.dst x) S') o.op
    | some (g, want) => getK F g fun c => match c with
      | .tt => match want with
        | true => vcOp P F S (fun x S' => splitG o.isG x fun x => vcOps P K rest (putF F o.dst x) S') o.op
        | false => vcOps P K rest (putF F o.dst (.tup [])) S
      | .ff => match want with
        | false => vcOp P F S (fun x S' => splitG o.isG x fun x => vcOps P K rest (putF F o.dst x) S') o.op
        | true => vcOps P K rest (putF F o.dst (.tup [])) S
      | .tup _ => vcOps P K rest (putF F o.dst (.tup [])) S
      | _ => False

/-- What leaves the store as it is, and whose value hangs on nothing else: a call so far as its contract says so. -/
def SOp.quiet : SOp → Bool
  | .mov _ | .pick _ _ _ | .build _ _ | .load _ _ _ | .nilchk _ | .bin _ _ _ _ | .strid _ | .not _ | .neg _ | .conv _ _ | .slice _ _ _ _ | .faddr _ _ | .field _ _ _ _
  | .iaddr _ _ _ _ | .index _ _ _ _ _ | .len _ _ | .min _ | .max _ | .mkfunc _ _ _ | .extract _ _ | .ext _ _ | .call _ _ | .callv _ _ | .b2s _ | .again _ _ _ _ | .mkif _ _ | .slice3 _ _ _ _ => true
  | .bslice ro _ _ _ _ => ro
  | _ => false

def vcOpD (P : Program) (F : Frame) (S : Store) (K : AVal → Store → Prop) : SOp → Prop
  | .call f args => rdsK F args fun xs => ∃ r0, ACalls P f xs S (fun r S' => r = r0 ∧ S' = S) ∧ K r0 S
  | .callv x args => rdK F x fun x => match x with
    | .fn (.func f) [] cap => True ∧ rdsK F args fun xs => ∃ r0, ACalls P f (xs ++ cap) S (fun r S' => r = r0 ∧ S' = S) ∧ K r0 S
    | _ => False
  | so => vcOp P F S K so

/-- A region whose order is open: the operations stand in an order of ours (the list says which ones), the first m come quietly; so many dead places are laid ahead of it. -/
def vcOpsD (P : Program) (K : Frame → Store → Prop) : Nat → List GOp → Frame → Store → Prop
  | 0, l, F, S => vcOps P K l F S
  | _ + 1, [], F, S => K F S
  | m + 1, o :: rest, F, S =>
    match o.guard with
    | none => vcOpD P F S (fun x S' => splitG o.isG x fun x => vcOpsD P K m rest (putF F o.dst x) S') o.op
    | some (g, want) => getK F g fun c => match c with
      | .tt => match want with
        | true => vcOpD P F S (fun x S' => splitG o.isG x fun x => vcOpsD P K m rest (putF F o.dst x) S') o.op
        | false => vcOpsD P K m rest (putF F o.dst (.tup [])) S
      | .ff => match want with
        | false => vcOpD P F S (fun x S' => splitG o.isG x fun x => vcOpsD P K m rest (putF F o.dst x) S') o.op
        | true => vcOpsD P K m rest (putF F o.dst (.tup [])) S
      | .tup _ => vcOpsD P K m rest (putF F o.dst (.tup [])) S
      | _ => False

def extK (P : Program) (f : FuncId) : Option ExtK :=
  match P.funcs[f]? with
  | some fn => (match fn.body.isNone && (Extern.findNext fn).isNone with
    | true => if fn.name == "internal/bytealg.IndexByteString" then some .idxb else if fn.name == "internal/bytealg.CountString" then some .cnt else none
    | false => none)
  | none => none

inductive SExit where
  | normal
  | exit (id : Nat)
  | ret
  deriving DecidableEq

inductive SCode where
  | skip
  | ops (l : List GOp) (draw : Option (Nat × Nat × List Nat)) (keep : List Nat)
  | seq (a b : SCode)
  | join (keep W : List Nat) (n : Nat) (a b : SCode)
  | cond (x : Rand) (a b : SCode)
  | block (id : Nat) (a : SCode)
  | loop (keep W : List Nat) (n : Nat) (a : SCode)
  | exit (id : Nat)
  | ret
  deriving Inhabited

def onlyK (keep : List Nat) (F : Frame) (K : Frame → Prop) : Prop :=
  match keep with
  | [] => K []
  | t :: keep => getK F t fun x => onlyK keep F fun F' => K ((t, x) :: F')

/-- Exactly n objects: the others are let go, missing ones are dead. -/
def fitK (n : Nat) (S : Store) (K : Store → Prop) : Prop :=
  match n, S with
  | 0, _ => K []
  | n + 1, [] => fitK n [] fun S' => K (.dead :: S')
  | n + 1, o :: S => fitK n S fun S' => K (o :: S')

def allA : (n : Nat) → (List AVal → Prop) → Prop
  | 0, f => f []
  | n + 1, f => ∀ x, allA n fun l => f (x :: l)
def allO : (n : Nat) → (Store → Prop) → Prop
  | 0, f => f []
  | n + 1, f => ∀ x, allO n fun l => f (x :: l)

def getsK (W : List Nat) (F : Frame) (K : List AVal → Prop) : Prop :=
  match W with | [] => K [] | t :: W => getK F t fun x => getsK W F fun xs => K (x :: xs)

def zipF : List Nat → List AVal → Frame → Frame
  | t :: W, x :: xs, F => (t, x) :: zipF W xs F
  | _, _, F => F

def SExit.onNormal (N : Frame → Store → Prop) (Q : SExit → Frame → Store → Prop) : SExit → Frame → Store → Prop
  | .normal, F, S => N F S
  | e, F, S => Q e F S
def SExit.onBlock (id : Nat) (Q : SExit → Frame → Store → Prop) : SExit → Frame → Store → Prop
  | .exit id', F, S => match Nat.beq id' id with | true => Q .normal F S | false => Q (.exit id') F S
  | e, F, S => Q e F S

def vc (P : Program) : SCode → (SExit → Frame → Store → Prop) → Frame → Store → Prop
  | .skip, Q, F, S => Q .normal F S
  | .ops l none keep, Q, F, S => vcOps P (fun F' S' => onlyK keep F' fun F'' => Q .normal F'' S') l F S
  | .ops l (some d) keep, Q, F, S => vcOpsD P (fun F' S' => onlyK keep F' fun F'' => Q .normal F'' S') d.1 l F (S ++ List.replicate d.2.1 .dead)
  | .seq a b, Q, F, S => vc P a (SExit.onNormal (vc P b Q) Q) F S
  | .join keep W n a b, Q, F, S => ∀ K : List AVal → Store → Prop,
      (onlyK keep F fun F0 => allA W.length fun xs => ∀ os, vc P b Q (zipF W xs F0) os → K xs os) →
      vc P a (SExit.onNormal (fun F' S' => getsK W F' fun xs => K xs S') Q) F S
  | .cond x a b, Q, F, S => rdK F x fun c => match c with
    | .tt => vc P a Q F S
    | .ff => vc P b Q F S
    | .bool c => (c = true → vc P a Q F S) ∧ (c = false → vc P b Q F S)
    | _ => False
  | .block id a, Q, F, S => vc P a (SExit.onBlock id Q) F S
  | .loop keep W n a, Q, F, S => ∃ I : Nat → List AVal → Store → Prop,
      (getsK W F fun xs => ∃ k, I k xs S) ∧
      onlyK keep F fun F0 => allA W.length fun xs => ∀ k os, I k xs os →
        vc P a (SExit.onNormal (fun F' S' => getsK W F' fun ys => ∃ k', k' < k ∧ I k' ys S') Q) (zipF W xs F0) os
  | .exit id, Q, F, S => Q (.exit id) F S
  | .ret, Q, F, S => Q .ret F S

/-! ### A whole function -/
inductive RRes where
  | tmp (t : Nat)
  | cell (t n : Nat) (ag : Bool)
  deriving Inhabited

def wRes (F : Frame) (S : Store) (K : List AVal → Prop) : List RRes → Prop
  | [] => K []
  | .tmp t :: rs => getK F t fun x => wRes F S (fun xs => K (x :: xs)) rs
  | .cell t n ag :: rs => getK F t fun p => wLoad S n ag p fun x => wRes F S (fun xs => K (x :: xs)) rs

def retV (xs : List AVal) (K : AVal → Prop) : Prop := match xs with | [x] => K x | xs => K (.tup xs)

def argF : Nat → List AVal → Frame
  | _, [] => []
  | i, x :: xs => (i, x) :: argF (i + 1) xs

/-- What is to be shown of a function: its code, its results. -/
def vcFun (P : Program) (c : SCode) (res : List RRes) (args : List AVal) (S : Store) (R : AVal → Store → Prop) : Prop :=
  vc P c (fun e F' S' => match e with
    | .normal => wRes F' S' (fun xs => retV xs fun r => R r S') res
    | .ret => wRes F' S' (fun xs => retV xs fun r => R r S') res
    | _ => False) (argF 0 args) S

end Go.Vc
