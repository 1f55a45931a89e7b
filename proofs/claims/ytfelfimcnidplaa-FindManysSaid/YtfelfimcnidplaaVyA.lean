/-
  A typed reading of the simplified code: values as plain terms, rows as lists, conditions as propositions. What each operation comes to.
-/
import Derived.Test.YtfelfimcnidplaaVx3
set_option linter.unusedVariables false
namespace Go.Vc

abbrev Nm (_ : String) (α : Type) := α

noncomputable def iteP {α : Type} (p : Prop) (a b : α) : α := @ite α p (Classical.propDecidable p) a b
noncomputable def bo (p : Prop) : Bool := @decide p (Classical.propDecidable p)
/-- Element i. -/
def gt {α : Type} [Inhabited α] (l : List α) (i : Int) : α := l.getD i.toNat default

def kEq : (k k' : IntKind) → Option (PLift (k = k'))
  | .i8, .i8 => some ⟨rfl⟩
  | .u8, .u8 => some ⟨rfl⟩
  | .i16, .i16 => some ⟨rfl⟩
  | .u16, .u16 => some ⟨rfl⟩
  | .i32, .i32 => some ⟨rfl⟩
  | .u32, .u32 => some ⟨rfl⟩
  | .i64, .i64 => some ⟨rfl⟩
  | .u64, .u64 => some ⟨rfl⟩
  | _, _ => none

mutual
def tyEq : (a b : Ty) → Option (PLift (a = b))
  | .int k, .int k' => (match kEq k k' with | some ⟨h⟩ => some ⟨by rw [h]⟩ | none => none)
  | .str, .str => some ⟨rfl⟩
  | .bool, .bool => some ⟨rfl⟩
  | .st a, .st b => (match tysEq a b with | some ⟨h⟩ => some ⟨by rw [h]⟩ | none => none)
  | .sl a, .sl b => (match tyEq a b with | some ⟨h⟩ => some ⟨by rw [h]⟩ | none => none)
  | _, _ => none
def tysEq : (a b : Tys) → Option (PLift (a = b))
  | .nil, .nil => some ⟨rfl⟩
  | .cons a as, .cons b bs => (match tyEq a b, tysEq as bs with | some ⟨h⟩, some ⟨g⟩ => some ⟨by rw [h, g]⟩ | _, _ => none)
  | _, _ => none
end

mutual
def zT : (t : Ty) → T t
  | .int _ => (0 : Int)
  | .str => ([] : List UInt8)
  | .bool => false
  | .st fs => zTs fs
  | .sl e => ([] : List (T e))
def zTs : (ts : Tys) → Ts ts
  | .nil => ()
  | .cons t .nil => zT t
  | .cons t (.cons u ts) => (zT t, zTs (.cons u ts))
end

/-- A value: 'ptr l off': cell off of object l; 'eptr l i fo': cell fo of element i of row l; 'slf l': all of row l; 'ros', 'rop': memory that no one writes; 'inn l i': the slice that stands in cell i of l, a row of rows; 'ieptr l i j k fo': cell fo of element j of that (elements of k cells). -/
inductive TV where
  | junk
  | tt
  | ff
  | bb (b : Bool)
  | pr (p : Prop)
  | gd (p : Prop)
  | int (k : IntKind) (n : Int)
  | byte (b : UInt8)
  | str (s : List UInt8)
  | nilp
  | nilf
  | nilm
  | nili
  | nils
  | ptr (l off : Nat)
  | eptr (l : Nat) (i : Int) (fo : Nat)
  | rop (cs : List TV)
  | ros (t : Ty) (l : List (T t))
  | slf (l : Nat)
  | sl (l : Nat) (off len : Int)
  | agg (cs : List TV)
  | tup (cs : List TV)
  | fn (f : Nat) (cap : List TV)
  | inn (l : Nat) (i : Int)
  | ieptr (l : Nat) (i j : Int) (k fo : Nat)
  | ifs (t l : Nat)
  | cst (v : Value)
  deriving Inhabited

inductive TOb where
  | dead
  | cells (k : Nat) (cs : List TV)
  | row (t : Ty) (l : List (T t))
  | drow (t : Ty) (l : List (List (T t)))
  deriving Inhabited

/-- A frame: slot, under which guards, their condition, value. -/
abbrev RF := List (Nat × List (Nat × Bool) × Prop × TV)

def lookN {α : Type} : List (Nat × α) → Nat → Option α
  | [], _ => none
  | (k, x) :: l, n => match Nat.beq k n with | true => some x | false => lookN l n

def eqPath : List (Nat × Bool) → List (Nat × Bool) → Bool
  | [], [] => true
  | (a, true) :: p, (b, true) :: q => match Nat.beq a b with | true => eqPath p q | false => false
  | (a, false) :: p, (b, false) :: q => match Nat.beq a b with | true => eqPath p q | false => false
  | _, _ => false
/-- gs is an end of the path. -/
def sufx (gs : List (Nat × Bool)) : List (Nat × Bool) → Bool
  | [] => match gs with | [] => true | _ :: _ => false
  | q :: p => match eqPath gs (q :: p) with | true => true | false => sufx gs p

def ofS : AVal → Option TV
  | .bool true => some .tt
  | .bool false => some .ff
  | .int k n => some (.int k n)
  | .str s => some (.str s)
  | .nilp => some .nilp
  | .nilf => some .nilf
  | .nilm => some .nilm
  | .nili => some .nili
  | .nils => some .nils
  | .fn (.func f) [] [] => some (.fn f [])
  | _ => none
def ofL : List AVal → Option (List TV)
  | [] => some []
  | x :: xs => match ofS x, ofL xs with | some y, some ys => some (y :: ys) | _, _ => none
def ofA : AVal → Option TV
  | .agg cs => (match ofL cs with | some ys => some (.agg ys) | none => none)
  | x => ofS x

def rdP (F : RF) (path : List (Nat × Bool)) : Rand → Option TV
  | .c x => ofA x
  | .t n => match lookN F n with
    | some (gs, _, x) => (match sufx gs path with | true => some x | false => none)
    | none => none
def rdPs (F : RF) (path : List (Nat × Bool)) : List Rand → Option (List TV)
  | [] => some []
  | x :: xs => match rdP F path x, rdPs F path xs with | some y, some ys => some (y :: ys) | _, _ => none

def conj : List Prop → Prop → Prop
  | [], q => q
  | p :: ps, q => p ∧ conj ps q
def underP (c : Prop) : List Prop → List Prop
  | [] => []
  | p :: ps => (c → p) :: underP c ps

/-! ### Cells -/
mutual
def cellsT : (t : Ty) → T t → List TV
  | .int k, n => [.int k n]
  | .str, s => [.str s]
  | .bool, b => [.bb b]
  | .st fs, x => cellsTs fs x
  | .sl e, l => [.ros e l]
def cellsTs : (ts : Tys) → Ts ts → List TV
  | .nil, _ => []
  | .cons t .nil, x => cellsT t x
  | .cons t (.cons u ts), x => cellsT t x.1 ++ cellsTs (.cons u ts) x.2
end
def tvA : (t : Ty) → T t → TV
  | .int k, n => .int k n
  | .str, s => .str s
  | .bool, b => .bb b
  | .st fs, x => .agg (cellsTs fs x)
  | .sl e, l => .ros e l

def asI : TV → Option (IntKind × Int)
  | .int k n => some (k, n)
  | .byte b => some (.u8, (b.toNat : Int))
  | _ => none
def asP : TV → Option Prop
  | .pr p => some p
  | .gd p => some p
  | .bb b => some (b = true)
  | .tt => some True
  | .ff => some False
  | _ => none
noncomputable def asB : TV → Option Bool
  | .pr p => some (bo p)
  | .bb b => some b
  | .tt => some true
  | .ff => some false
  | _ => none

def decI (k : IntKind) : List TV → Option (Int × List TV)
  | x :: r => (match asI x with | some (k', n) => (match kEq k k' with | some _ => some (n, r) | none => none) | none => none)
  | [] => none
def decStr : List TV → Option (List UInt8 × List TV)
  | .str s :: r => some (s, r)
  | _ => none
noncomputable def decBool : List TV → Option (Bool × List TV)
  | x :: r => (match asB x with | some b => some (b, r) | none => none)
  | [] => none
def decSl (e : Ty) : List TV → Option (List (T e) × List TV)
  | .ros e' l :: r => (match tyEq e' e with | some ⟨h⟩ => some ((h ▸ l : List (T e)), r) | none => none)
  | _ => none
mutual
noncomputable def decC : (t : Ty) → List TV → Option (T t × List TV)
  | .int k, cs => decI k cs
  | .str, cs => decStr cs
  | .bool, cs => decBool cs
  | .st fs, cs => decCs fs cs
  | .sl e, cs => decSl e cs
noncomputable def decCs : (ts : Tys) → List TV → Option (Ts ts × List TV)
  | .nil, cs => some ((), cs)
  | .cons t .nil, cs => decC t cs
  | .cons t (.cons u ts), cs => (match decC t cs with
    | some (x, r) => (match decCs (.cons u ts) r with | some (y, r') => some ((x, y), r') | none => none)
    | none => none)
end

noncomputable def decL (t : Ty) : Nat → List TV → Option (List (T t))
  | 0, [] => some []
  | n + 1, cs => (match decC t cs with
    | some (x, r) => (match decL t n r with | some xs => some (x :: xs) | none => none)
    | none => none)
  | 0, _ :: _ => none

def objAt : List TOb → Nat → Option TOb
  | [], _ => none
  | o :: _, 0 => some o
  | _ :: S, l + 1 => objAt S l
def setOb : List TOb → Nat → TOb → List TOb
  | [], _, _ => []
  | _ :: S, 0, o => o :: S
  | a :: S, l + 1, o => a :: setOb S l o

/-- A list that a value stands for. -/
def decS (TS : List TOb) (t : Ty) : TV → Option (List (T t))
  | .ros e l => (match tyEq e t with | some ⟨h⟩ => some (h ▸ l) | none => none)
  | .nils => some []
  | .slf l => (match objAt TS l with
    | some (.row e ls) => (match tyEq e t with | some ⟨h⟩ => some (h ▸ ls) | none => none)
    | _ => none)
  | .sl l off len => (match objAt TS l with
    | some (.row e ls) => (match tyEq e t with | some ⟨h⟩ => some ((h ▸ ls : List (T t)).drop off.toNat |>.take len.toNat) | none => none)
    | _ => none)
  | _ => none

def decAI (k : IntKind) (x : TV) : Option Int := (match asI x with | some (k', n) => (match kEq k k' with | some _ => some n | none => none) | none => none)
def decAS : TV → Option (List UInt8) | .str s => some s | _ => none
noncomputable def decAg (fs : Tys) : TV → Option (Ts fs)
  | .agg cs => (match decCs fs cs with | some (x, []) => some x | _ => none)
  | _ => none
noncomputable def decA (TS : List TOb) : (t : Ty) → TV → Option (T t)
  | .int k, x => decAI k x
  | .str, x => decAS x
  | .bool, x => asB x
  | .st fs, x => decAg fs x
  | .sl e, x => decS TS e x

def tvCells : TV → Option (List TV)
  | .agg cs => some cs
  | .tup _ => none
  | .junk => none
  | .gd _ => none
  | .inn _ _ => none
  | .ieptr _ _ _ _ _ => none
  | .ifs _ _ => none
  | .cst _ => none
  | x => some [x]

def takeG {α : Type} : Nat → List α → Option (List α)
  | 0, _ => some []
  | n + 1, x :: xs => (match takeG n xs with | some ys => some (x :: ys) | none => none)
  | _ + 1, [] => none
def overG {α : Type} : List α → List α → List α
  | [], _ => []
  | cs, [] => cs
  | _ :: cs, y :: ys => y :: overG cs ys
def setG {α : Type} : List α → Nat → List α → List α
  | cs, 0, ys => overG cs ys
  | [], _ + 1, _ => []
  | c :: cs, n + 1, ys => c :: setG cs n ys
def mkVT (ag : Bool) (xs : List TV) : Option TV :=
  match ag with | true => some (.agg xs) | false => (match xs with | [x] => some x | _ => none)
def sizeIs {α : Type} : List α → Nat → Bool
  | [], 0 => true
  | _ :: l, n + 1 => sizeIs l n
  | _, _ => false
def sizeLe : Nat → List TV → Bool
  | 0, _ => true
  | n + 1, _ :: l => sizeLe n l
  | _ + 1, [] => false

def fillT (F : RF) (path : List (Nat × Bool)) (cs : List TV) : List (Nat × Nat × Rand) → Option (List TV)
  | [] => some cs
  | (off, n, x) :: rest => (match rdP F path x with
    | some x => (match tvCells x with
      | some ys => (match sizeIs ys n, sizeLe (off + n) cs with
        | true, true => fillT F path (setG cs off ys) rest
        | _, _ => none)
      | none => none)
    | none => none)

/-! ### Operations on values -/
def mkI (k : IntKind) (n : Int) : List Prop × TV :=
  match k with | .i64 => ([inI64 n], .int .i64 n) | k => ([], .int k (k.wrap n))

def intBinV (op : BinOp) (k : IntKind) (a b : Int) : Option (List Prop × TV) :=
  match op with
  | .add => some (mkI k (a + b))
  | .sub => some (mkI k (a - b))
  | .mul => some (mkI k (a * b))
  | .quo => some ((b ≠ 0) :: (mkI k (a.tdiv b)).1, (mkI k (a.tdiv b)).2)
  | .rem => some ([b ≠ 0], .int k (a.tmod b))
  | .eql => some ([], .pr (a = b))
  | .neq => some ([], .pr (a ≠ b))
  | .lss => some ([], .pr (a < b))
  | .leq => some ([], .pr (a ≤ b))
  | .gtr => some ([], .pr (b < a))
  | .geq => some ([], .pr (b ≤ a))
  | .and => some ([], .int k (k.wrap ((BitVec.ofInt k.bits a) &&& (BitVec.ofInt k.bits b)).toNat))
  | .or => some ([], .int k (k.wrap ((BitVec.ofInt k.bits a) ||| (BitVec.ofInt k.bits b)).toNat))
  | .xor => some ([], .int k (k.wrap ((BitVec.ofInt k.bits a) ^^^ (BitVec.ofInt k.bits b)).toNat))
  | _ => none

def strBinV (op : BinOp) (a b : List UInt8) : Option (List Prop × TV) :=
  match op with
  | .add => some ([inI64 (a.length + b.length)], .str (a ++ b))
  | .eql => some ([], .pr (a = b))
  | .neq => some ([], .pr (a ≠ b))
  | .lss => some ([], .pr (Op.bytesLess a b = true))
  | .leq => some ([], .pr (Op.bytesLess a b = true ∨ a = b))
  | .gtr => some ([], .pr (¬ (Op.bytesLess a b = true ∨ a = b)))
  | .geq => some ([], .pr (¬ Op.bytesLess a b = true))
  | _ => none

def asQ : TV → Option Prop
  | .pr p => some p
  | .bb b => some (b = true)
  | .tt => some True
  | .ff => some False
  | _ => none
def cellEqV (k : FK) (x y : TV) : Option Prop :=
  match k with
  | .int => (match asI x, asI y with
    | some (k, a), some (k', b) => (match kEq k k' with | some _ => some (a = b) | none => none)
    | _, _ => none)
  | .str => (match decAS0 x, decAS0 y with | some a, some b => some (a = b) | _, _ => none)
  | .bool => (match asQ x, asQ y with | some a, some b => some (a ↔ b) | _, _ => none)
where decAS0 : TV → Option (List UInt8) | .str s => some s | _ => none
def cellsEqV : List FK → List TV → List TV → Option Prop
  | [], [], [] => some True
  | [k], [x], [y] => cellEqV k x y
  | k :: ks, x :: xs, y :: ys => (match cellEqV k x y, cellsEqV ks xs ys with | some p, some q => some (p ∧ q) | _, _ => none)
  | _, _, _ => none

def eqV (op : BinOp) (p : Prop) : Option (List Prop × TV) :=
  match op with | .eql => some ([], .pr p) | .neq => some ([], .pr (¬ p)) | _ => none

def isRef : TV → Bool
  | .ptr _ _ | .eptr _ _ _ | .rop _ => true
  | _ => false

def binI (op : BinOp) (k : IntKind) (a : Int) (k' : IntKind) (b : Int) : Option (List Prop × TV) :=
  match op with
  | .shl => some ((0 ≤ b) :: (mkI k (a * 2 ^ (min b.toNat k.bits))).1, (mkI k (a * 2 ^ (min b.toNat k.bits))).2)
  | .shr => some ([0 ≤ b], .int k (a.fdiv (2 ^ (min b.toNat k.bits))))
  | op => (match kEq k k' with | some _ => intBinV op k a b | none => none)

def binV (q : EqQ) (op : BinOp) (x y : TV) : Option (List Prop × TV) :=
  match x, y with
  | .byte a, .byte b => (match op with
    | .eql => some ([], .pr (a = b))
    | .neq => some ([], .pr (a ≠ b))
    | op => binI op .u8 (a.toNat : Int) .u8 (b.toNat : Int))
  | .int k a, .int k' b => binI op k a k' b
  | .byte a, .int k' b => binI op .u8 (a.toNat : Int) k' b
  | .int k a, .byte b => binI op k a .u8 (b.toNat : Int)
  | .str a, .str b => strBinV op a b
  | .agg xs, .agg ys => (match q with | .agg ks => (match cellsEqV ks xs ys with | some p => eqV op p | none => none) | _ => none)
  | .nilp, .nilp => (match q with | .ptr => eqV op True | _ => none)
  | .nilp, .ptr _ _ => (match q with | .ptr => eqV op False | _ => none)
  | .nilp, .eptr _ _ _ => (match q with | .ptr => eqV op False | _ => none)
  | .nilp, .rop _ => (match q with | .ptr => eqV op False | _ => none)
  | .ptr _ _, .nilp => (match q with | .ptr => eqV op False | _ => none)
  | .eptr _ _ _, .nilp => (match q with | .ptr => eqV op False | _ => none)
  | .rop _, .nilp => (match q with | .ptr => eqV op False | _ => none)
  | .nilf, .nilf => (match q with | .func => eqV op True | _ => none)
  | .fn _ _, .nilf => (match q with | .func => eqV op False | _ => none)
  | x, y => (match q with
    | .bool => (match asQ x, asQ y with | some a, some b => eqV op (a ↔ b) | _, _ => none)
    | _ => none)

def sameC : Value → Value → Bool
  | .pointer (some ⟨b, o, none⟩), .pointer (some ⟨b', o', none⟩) => Nat.beq b b' && Nat.beq o o'
  | _, _ => false
mutual
def sameV : TV → TV → Bool
  | .slf l, .slf l' => Nat.beq l l'
  | .ptr l o, .ptr l' o' => Nat.beq l l' && Nat.beq o o'
  | .nilp, .nilp => true
  | .nilf, .nilf => true
  | .nilm, .nilm => true
  | .nili, .nili => true
  | .nils, .nils => true
  | .tt, .tt => true
  | .ff, .ff => true
  | .fn f xs, .fn g ys => Nat.beq f g && sameL xs ys
  | .agg xs, .agg ys => sameL xs ys
  | .tup xs, .tup ys => sameL xs ys
  | .rop xs, .rop ys => sameL xs ys
  | .cst v, .cst u => sameC v u
  | _, _ => false
def sameL : List TV → List TV → Bool
  | [], [] => true
  | x :: xs, y :: ys => sameV x y && sameL xs ys
  | _, _ => false
end

/-- One of two values. -/
noncomputable def pickS (p : Prop) (x y : TV) : Option TV :=
  match x, y with
  | .tt, .ff => some (.pr p)
  | .ff, .tt => some (.pr (¬ p))
  | .tt, .tt => some .tt
  | .ff, .ff => some .ff
  | .int k a, .int k' b => (match kEq k k' with | some _ => some (.int k (iteP p a b)) | none => none)
  | .byte a, .byte b => some (.byte (iteP p a b))
  | .int .u8 a, .byte b => some (.int .u8 (iteP p a (b.toNat : Int)))
  | .byte a, .int .u8 b => some (.int .u8 (iteP p (a.toNat : Int) b))
  | .str a, .str b => some (.str (iteP p a b))
  | .tt, y => (match asQ y with | some b => some (.pr (p ∨ b)) | none => none)
  | x, .ff => (match asQ x with | some a => some (.pr (p ∧ a)) | none => none)
  | .ff, y => (match asQ y with | some b => some (.pr (¬ p ∧ b)) | none => none)
  | x, y => (match asQ x, asQ y with
    | some a, some b => some (.pr ((p ∧ a) ∨ (¬ p ∧ b)))
    | _, _ => (match sameV x y with | true => some x | false => none))
noncomputable def pickL (p : Prop) : List TV → List TV → Option (List TV)
  | [], [] => some []
  | x :: xs, y :: ys => (match pickS p x y, pickL p xs ys with | some z, some zs => some (z :: zs) | _, _ => none)
  | _, _ => none
noncomputable def pickV (p : Prop) (x y : TV) : Option TV :=
  match x, y with
  | .agg xs, .agg ys => (match sameV (.agg xs) (.agg ys) with | true => some (.agg xs) | false => (match pickL p xs ys with | some zs => some (.agg zs) | none => none))
  | x, y => pickS p x y

/-- Element i of explicit cells (elements of k cells, n of them). -/
noncomputable def pickN (k : Nat) (i : Int) (ag : Bool) (cs : List TV) : Nat → Nat → Option TV
  | 0, _ => none
  | n + 1, j => (match takeG k (cs.drop (j * k)) with
    | some xs => (match mkVT ag xs with
      | some x => (match n with
        | 0 => some x
        | n + 1 => (match pickN k i ag cs (n + 1) (j + 1) with | some y => pickV (i = (j : Int)) x y | none => none))
      | none => none)
    | none => none)

def convV (k : IntKind) (x : TV) : Option (List Prop × TV) :=
  match x with
  | .int _ n => some (mkI k n)
  | .byte b => (match k with
    | .i64 => some ([], .int .i64 (b.toNat : Int))
    | .u8 => some ([], .byte b)
    | k => some (mkI k (b.toNat : Int)))
  | _ => none

def loV (F : RF) (path : List (Nat × Bool)) : Option Rand → Option Int
  | none => some 0
  | some r => (match rdP F path r with | some x => (match asI x with | some (_, n) => some n | none => none) | none => none)
def hiV (F : RF) (path : List (Nat × Bool)) (n : Int) : Option Rand → Option Int
  | none => some n
  | some r => (match rdP F path r with | some x => (match asI x with | some (_, n) => some n | none => none) | none => none)

def minV (k : IntKind) (a : Int) : List TV → Option TV
  | [] => some (.int k a)
  | .int k' b :: r => (match kEq k k' with | some _ => minV k (min a b) r | none => none)
  | _ => none
def maxV (k : IntKind) (a : Int) : List TV → Option TV
  | [] => some (.int k a)
  | .int k' b :: r => (match kEq k k' with | some _ => maxV k (max a b) r | none => none)
  | _ => none

/-! ### Contracts -/
inductive RTy where
  | val (t : Ty)
  | own (t : Ty)
abbrev RT : RTy → Type
  | .val t => T t
  | .own t => List (T t)
def RTs : List RTy → Type
  | [] => Unit
  | [r] => RT r
  | r :: s :: rs => RT r × RTs (s :: rs)

structure Ct where
  args : Tys
  res : List RTy
  pre : Ts args → Prop
  fn : Ts args → RTs res

def resTV : (rs : List RTy) → RTs rs → Nat → List TV × List TOb
  | [], _, _ => ([], [])
  | [.val t], x, _ => ([tvA t x], [])
  | [.own t], x, n => ([.slf n], [.row t x])
  | .val t :: s :: rs, x, n => (tvA t x.1 :: (resTV (s :: rs) x.2 n).1, (resTV (s :: rs) x.2 n).2)
  | .own t :: s :: rs, x, n => (.slf n :: (resTV (s :: rs) x.2 (n + 1)).1, .row t x.1 :: (resTV (s :: rs) x.2 (n + 1)).2)
def retT (xs : List TV) : TV := match xs with | [x] => x | xs => .tup xs

def allVal : List RTy → Bool
  | [] => true
  | .val _ :: rs => allVal rs
  | .own _ :: _ => false

mutual
def flatT : Ty → Bool
  | .sl _ => false
  | .st fs => flatTs fs
  | _ => true
def flatTs : Tys → Bool
  | .nil => true
  | .cons t ts => flatT t && flatTs ts
end
def flatR : List RTy → Bool
  | [] => true
  | .val t :: rs => flatT t && flatR rs
  | .own t :: rs => flatT t && flatR rs

mutual
def pureV : TV → Bool
  | .ptr _ _ | .eptr _ _ _ | .slf _ | .sl _ _ _ | .inn _ _ | .ieptr _ _ _ _ _ | .ifs _ _ => false
  | .rop cs => pureL cs
  | .agg cs => pureL cs
  | .tup cs => pureL cs
  | .fn _ cs => pureL cs
  | _ => true
def pureL : List TV → Bool
  | [] => true
  | x :: xs => pureV x && pureL xs
end

noncomputable def decA1 (TS : List TOb) (t : Ty) : List TV → Option (T t)
  | [x] => decA TS t x
  | _ => none
noncomputable def decAs (TS : List TOb) : (ts : Tys) → List TV → Option (Ts ts)
  | .nil, xs => (match xs with | [] => some () | _ :: _ => none)
  | .cons t .nil, xs => decA1 TS t xs
  | .cons t (.cons u ts), xs => (match xs with
    | x :: xs => (match decA TS t x, decAs TS (.cons u ts) xs with | some a, some b => some (a, b) | _, _ => none)
    | [] => none)

section
variable (Γ : List (Nat × Ct)) (ht : Option Ty) (F : RF) (path : List (Nat × Bool)) (TS : List TOb)
def isNils : Rand → Bool | .c .nils => true | _ => false
def evMov (x : Rand) : Option (List Prop × TV) :=
  match ht, isNils x with
  | some _, true => none
  | _, _ => (match rdP F path x with | some y => some ([], y) | none => none)
noncomputable def evPick1 (n : Nat) (gs : List (Nat × Bool)) (c : TV) (a b : Rand) : Option (List Prop × TV) :=
  match c with
  | .gd p => (match rdP F ((n, true) :: gs) a, rdP F ((n, false) :: gs) b with
    | some x, some y => (match pickV p x y with | some z => some ([], z) | none => none)
    | _, _ => none)
  | c => (match asQ c, rdP F path a, rdP F path b with
    | some p, some x, some y => (match pickV p x y with | some z => some ([], z) | none => none)
    | _, _, _ => none)
noncomputable def evPick (c a b : Rand) : Option (List Prop × TV) :=
  match c with
  | .t n => (match lookN F n with
    | some (gs, _, c) => (match sufx gs path with
      | true => evPick1 F path n gs c a b
      | false => none)
    | none => none)
  | .c _ => none
def evBuild (z : List AVal) (parts : List (Nat × Nat × Rand)) : Option (List Prop × TV) :=
  match ofL z with
  | some cs => (match fillT F path cs parts with | some ys => some ([], .agg ys) | none => none)
  | none => none
noncomputable def evLit (len k : Nat) (z : List AVal) (parts : List (Nat × Nat × Rand)) : Option ((t : Ty) × List (T t)) :=
  match ht, ofL z with
  | some t, some cs => (match Nat.beq (szT t) k, fillT F path cs parts with
    | true, some ys => (match decL t len ys with | some xs => some ⟨t, xs⟩ | none => none)
    | _, _ => none)
  | _, _ => none
def partV (ag : Bool) (n : Nat) (cs : List TV) : Option (List Prop × TV) :=
  match takeG n cs with | some xs => (match mkVT ag xs with | some y => some ([], y) | none => none) | none => none
def evLoad (n : Nat) (ag : Bool) (x : TV) : Option (List Prop × TV) :=
  match x with
  | .rop cs => partV ag n cs
  | .ptr l off => (match objAt TS l with
    | some (.cells _ cs) => partV ag n (cs.drop off)
    | _ => none)
  | .eptr l i fo => (match objAt TS l with
    | some (.row t ls) => partV ag n ((cellsT t (@gt (T t) ⟨zT t⟩ ls i)).drop fo)
    | some (.drow _ _) => (match n, ag, fo with | 1, false, 0 => some ([], .inn l i) | _, _, _ => none)
    | _ => none)
  | .ieptr l i j k fo => (match objAt TS l with
    | some (.drow t ls) => (match Nat.beq (szT t) k with
      | true => partV ag n ((cellsT t (@gt (T t) ⟨zT t⟩ (gt ls i) j)).drop fo)
      | false => none)
    | _ => none)
  | _ => none
def evNilchk (x : TV) : Option (List Prop × TV) :=
  match x with
  | .rop cs => some ([], .rop cs)
  | .ptr l off => some ([], .ptr l off)
  | .eptr l i fo => some ([], .eptr l i fo)
  | .ieptr l i j k fo => some ([], .ieptr l i j k fo)
  | .fn f cs => some ([], .fn f cs)
  | _ => none
def evNot (x : TV) : Option (List Prop × TV) :=
  match x with
  | .tt => some ([], .ff)
  | .ff => some ([], .tt)
  | y => (match asP y with | some p => some ([], .pr (¬ p)) | none => none)
def evSlice0 (x : TV) (lo hi : Option Rand) : Option (List Prop × TV) :=
  match x with
  | .str s => (match loV F path lo, hiV F path (s.length : Int) hi with
    | some a, some b => some ([0 ≤ a, a ≤ b, b ≤ (s.length : Int)], .str ((s.take b.toNat).drop a.toNat))
    | _, _ => none)
  | _ => none
def evSlice1 (k : Nat) (x : TV) (lo hi : Option Rand) : Option (List Prop × TV) :=
  match x with
  | .ros t l => (match loV F path lo, hiV F path (l.length : Int) hi, Nat.beq (szT t) k with
    | some a, some b, true => some ([0 ≤ a, a ≤ b, b ≤ (l.length : Int)], .ros t ((l.take b.toNat).drop a.toNat))
    | _, _, _ => none)
  | .slf l => (match objAt TS l with
    | some (.row t ls) => (match loV F path lo, hiV F path (ls.length : Int) hi, Nat.beq (szT t) k with
      | some a, some b, true => some ([0 ≤ a, a ≤ b, b ≤ (ls.length : Int)], .sl l a (b - a))
      | _, _, _ => none)
    | _ => none)
  | .sl l off len => (match objAt TS l with
    | some (.row t ls) => (match loV F path lo, hiV F path len hi, Nat.beq (szT t) k with
      | some a, some b, true => some ([0 ≤ a, a ≤ b, b ≤ len], .sl l (off + a) (b - a))
      | _, _, _ => none)
    | _ => none)
  | .nils => (match loV F path lo, hiV F path 0 hi with
    | some a, some b => some ([a = 0, b = 0], .nils)
    | _, _ => none)
  | _ => none
def evFaddr (off : Nat) (x : TV) : Option (List Prop × TV) :=
  match x with
  | .ptr l o => some ([], .ptr l (o + off))
  | .eptr l i fo => some ([], .eptr l i (fo + off))
  | .ieptr l i j k fo => some ([], .ieptr l i j k (fo + off))
  | .rop cs => some ([], .rop (cs.drop off))
  | _ => none
def evField (off n : Nat) (ag : Bool) (x : TV) : Option (List Prop × TV) :=
  match x with
  | .agg cs => partV ag n (cs.drop off)
  | _ => none
def evIaddr (k : Nat) (x : TV) (j : Int) : Option (List Prop × TV) :=
  match x with
  | .ros t l => (match Nat.beq (szT t) k with
    | true => some ([0 ≤ j, j < (l.length : Int)], .rop (cellsT t (@gt (T t) ⟨zT t⟩ l j)))
    | false => none)
  | .slf l => (match objAt TS l with
    | some (.row t ls) => (match Nat.beq (szT t) k with
      | true => some ([0 ≤ j, j < (ls.length : Int)], .eptr l j 0)
      | false => none)
    | some (.drow t ls) => (match Nat.beq 1 k with
      | true => some ([0 ≤ j, j < (ls.length : Int)], .eptr l j 0)
      | false => none)
    | _ => none)
  | .inn l i => (match objAt TS l with
    | some (.drow t ls) => (match Nat.beq (szT t) k with
      | true => some ([0 ≤ j, j < ((gt ls i).length : Int)], .ieptr l i j k 0)
      | false => none)
    | _ => none)
  | .sl l off len => (match objAt TS l with
    | some (.row t ls) => (match Nat.beq (szT t) k with
      | true => some ([0 ≤ j, j < len], .eptr l (off + j) 0)
      | false => none)
    | _ => none)
  | _ => none
noncomputable def evIndex (k : Nat) (ar : Option Nat) (ag : Bool) (x : TV) (j : Int) : Option (List Prop × TV) :=
  match ar with
  | none => (match x with
    | .str s => some ([0 ≤ j, j < (s.length : Int)], .byte (gt s j))
    | _ => none)
  | some n => (match x with
    | .agg cs => (match pickN k j ag cs n 0 with
      | some z => some ([0 ≤ j, j < (n : Int)], z)
      | none => none)
    | _ => none)
def evLen (str : Bool) (x : TV) : Option (List Prop × TV) :=
  match str, x with
  | true, .str s => some ([], .int .i64 (s.length : Int))
  | false, .ros _ l => some ([], .int .i64 (l.length : Int))
  | false, .slf l => (match objAt TS l with | some (.row _ ls) => some ([], .int .i64 (ls.length : Int)) | some (.drow _ ls) => some ([], .int .i64 (ls.length : Int)) | _ => none)
  | false, .inn l i => (match objAt TS l with | some (.drow _ ls) => some ([], .int .i64 ((gt ls i).length : Int)) | _ => none)
  | false, .sl l off len => some ([], .int .i64 len)
  | false, .nils => some ([], .int .i64 0)
  | _, _ => none
def evMM (mx : Bool) (xs : List TV) : Option (List Prop × TV) :=
  match xs with
  | .int k a :: r => (match (match mx with | true => maxV k a r | false => minV k a r) with | some y => some ([], y) | none => none)
  | _ => none
def evFunc (f : Fn) (first : List Rand) (cap : List Rand) : Option (List Prop × TV) :=
  match f, first with
  | .func f, [] => (match rdPs F path cap with | some xs => some ([], .fn f xs) | none => none)
  | _, _ => none
def asBy : TV → Option UInt8
  | .byte b => some b
  | .int .u8 n => some n.toNat.toUInt8
  | _ => none
def evExt (k : ExtK) (xs : List TV) : Option (List Prop × TV) :=
  match xs with
  | [.str s, c] => (match asBy c with
    | some b => (match k with
      | .idxb => some ([], .int .i64 (Lib.indexByte s b))
      | .cnt => some ([], .int .i64 ((Lib.countByte s b : Nat) : Int)))
    | none => none)
  | _ => none
def evExtract (x : TV) (i : Nat) : Option (List Prop × TV) :=
  match x with
  | .tup xs => (match xs.drop i with | y :: _ => some ([], y) | [] => none)
  | _ => none
noncomputable def evCall (f : Nat) (xs : List TV) : Option (List Prop × TV) :=
  match lookN Γ f with
  | some ct => (match allVal ct.res, decAs TS ct.args xs, flatR ct.res || pureL xs with
    | true, some a, true => some ([ct.pre a], retT (resTV ct.res (ct.fn a) 0).1)
    | _, _, _ => none)
  | none => none
mutual
/-- Equations that make two plain values one. -/
def eqB : TV → TV → Option (List Prop)
  | .int k a, .int k' b => (match kEq k k' with | some _ => some [a = b] | none => none)
  | .byte a, .byte b => some [a = b]
  | .str a, .str b => some [a = b]
  | .ros t a, .ros t' b => (match tyEq t t' with | some ⟨h⟩ => some [h ▸ a = b] | none => none)
  | .slf l, .slf l' => (match Nat.beq l l' with | true => some [] | false => none)
  | .ptr l o, .ptr l' o' => (match Nat.beq l l', Nat.beq o o' with | true, true => some [] | _, _ => none)
  | .rop xs, .rop ys => eqBL xs ys
  | .fn f xs, .fn g ys => (match Nat.beq f g with | true => eqBL xs ys | false => none)
  | _, _ => none
def eqBL : List TV → List TV → Option (List Prop)
  | [], [] => some []
  | x :: xs, y :: ys => (match eqB x y, eqBL xs ys with | some ps, some qs => some (ps ++ qs) | _, _ => none)
  | _, _ => none
end
def with1 (x : Rand) (f : TV → Option (List Prop × TV)) : Option (List Prop × TV) := match rdP F path x with | some y => f y | none => none
def with2 (x y : Rand) (f : TV → TV → Option (List Prop × TV)) : Option (List Prop × TV) := match rdP F path x, rdP F path y with | some a, some b => f a b | _, _ => none
def withI (x i : Rand) (f : TV → Int → Option (List Prop × TV)) : Option (List Prop × TV) :=
  match rdP F path x, rdP F path i with | some a, some b => (match asI b with | some (_, j) => f a j | none => none) | _, _ => none
def withL (xs : List Rand) (f : List TV → Option (List Prop × TV)) : Option (List Prop × TV) := match rdPs F path xs with | some ys => f ys | none => none

/-- What leaves the store as it is. -/
noncomputable def evP : SOp → Option (List Prop × TV)
  | .mov x => evMov ht F path x
  | .pick c a b => evPick F path c a b
  | .build z parts => evBuild F path z parts
  | .bslice ro len k z parts => (match ro with
    | true => (match evLit ht F path len k z parts with | some ⟨t, xs⟩ => some ([], .ros t xs) | none => none)
    | false => none)
  | .load n ag x => with1 F path x (evLoad TS n ag)
  | .nilchk x => with1 F path x evNilchk
  | .bin q op x y => with2 F path x y (binV q op)
  | .strid x => with1 F path x fun x => match x with | .str s => some ([], .str s) | _ => none
  | .b2s x => with1 F path x fun x => match decS TS (.int .u8) x with | some l => some ([], .str (List.map (fun n : Int => UInt8.ofNat n.toNat) l)) | none => none
  | .not x => with1 F path x evNot
  | .neg x => with1 F path x fun x => match x with | .int k n => some (mkI k (0 - n)) | _ => none
  | .conv k x => with1 F path x (convV k)
  | .slice k x lo hi => with1 F path x fun x => match k with | 0 => evSlice0 F path x lo hi | k + 1 => evSlice1 F path TS (k + 1) x lo hi
  | .faddr off x => with1 F path x (evFaddr off)
  | .field off n ag x => with1 F path x (evField off n ag)
  | .iaddr k ar x i => (match ar with | none => withI F path x i (evIaddr TS k) | some _ => none)
  | .index k ar ag x i => withI F path x i (evIndex k ar ag)
  | .len str x => with1 F path x (evLen TS str)
  | .min xs => withL F path xs (evMM false)
  | .max xs => withL F path xs (evMM true)
  | .mkfunc f first cap => evFunc F path f first cap
  | .slice3 k x h m => with1 F path x fun x => with2 F path h m fun y z => (match asI y, asI z with
    | some (k1, n), some (k2, n') => (match x with
      | .slf l => (match objAt TS l with
        | some (.row t ls) => (match Nat.beq (szT t) k, kEq k1 k2 with | true, some _ => some ([n' = n, 0 ≤ n, n ≤ ls.length], .sl l 0 n) | _, _ => none)
        | _ => none)
      | _ => none)
    | _, _ => none)
  | .mkif t x => with1 F path x fun x => match x with | .slf l => some ([], .ifs t l) | _ => none
  | .ext k xs => withL F path xs (evExt k)
  | .extract x i => with1 F path x fun x => evExtract x i
  | .call f args => withL F path args (evCall Γ TS f)
  | .again t n ag x => with2 F path x (.t t) fun x y => (match evLoad TS n ag x with
    | some (ps, z) => (match eqB z y with | some qs => some (ps ++ qs, .junk) | none => none)
    | none => none)
  | .callv x args => with1 F path x fun x => (match x with | .fn f cap => withL F path args fun xs => evCall Γ TS f (xs ++ cap) | _ => none)
  | _ => none
end

mutual
def killV (l : Nat) : TV → TV
  | .slf l' => (match Nat.beq l l' with | true => .junk | false => .slf l')
  | .sl l' a b => (match Nat.beq l l' with | true => .junk | false => .sl l' a b)
  | .eptr l' a b => (match Nat.beq l l' with | true => .junk | false => .eptr l' a b)
  | .ptr l' a => (match Nat.beq l l' with | true => .junk | false => .ptr l' a)
  | .inn l' i => (match Nat.beq l l' with | true => .junk | false => .inn l' i)
  | .ieptr l' i j k a => (match Nat.beq l l' with | true => .junk | false => .ieptr l' i j k a)
  | .ifs t l' => (match Nat.beq l l' with | true => .junk | false => .ifs t l')
  | .agg cs => .agg (killL l cs)
  | .tup cs => .tup (killL l cs)
  | .rop cs => .rop (killL l cs)
  | .fn f cs => .fn f (killL l cs)
  | x => x
def killL (l : Nat) : List TV → List TV
  | [] => []
  | x :: xs => killV l x :: killL l xs
end
def killF (l : Nat) : RF → RF
  | [] => []
  | (s, gs, p, x) :: F => (s, gs, p, killV l x) :: killF l F
def killG (l : Nat) : List RF → List RF
  | [] => []
  | F :: G => killF l F :: killG l G
def killO (l : Nat) : List TOb → List TOb
  | [] => []
  | .cells k cs :: S => .cells k (killL l cs) :: killO l S
  | o :: S => o :: killO l S

/-! what leads into the rows of a row of rows -/
mutual
def killIV (l : Nat) : TV → TV
  | .inn l' i => (match Nat.beq l l' with | true => .junk | false => .inn l' i)
  | .ieptr l' i j k a => (match Nat.beq l l' with | true => .junk | false => .ieptr l' i j k a)
  | .ifs t l' => (match Nat.beq l l' with | true => .junk | false => .ifs t l')
  | .agg cs => .agg (killIL l cs)
  | .tup cs => .tup (killIL l cs)
  | .rop cs => .rop (killIL l cs)
  | .fn f cs => .fn f (killIL l cs)
  | x => x
def killIL (l : Nat) : List TV → List TV
  | [] => []
  | x :: xs => killIV l x :: killIL l xs
end
def killIF (l : Nat) : RF → RF
  | [] => []
  | (s, gs, p, x) :: F => (s, gs, p, killIV l x) :: killIF l F
def killIG (l : Nat) : List RF → List RF
  | [] => []
  | F :: G => killIF l F :: killIG l G
def killIO (l : Nat) : List TOb → List TOb
  | [] => []
  | .cells k cs :: S => .cells k (killIL l cs) :: killIO l S
  | o :: S => o :: killIO l S

def lenT : List TOb → Nat
  | [] => 0
  | _ :: S => lenT S + 1
def pushO : List TOb → TOb → List TOb
  | [], o => [o]
  | a :: S, o => a :: pushO S o
def pushL : List TOb → List TOb → List TOb
  | [], S => S
  | a :: S, S' => a :: pushL S S'

/-- What is appended. -/
noncomputable def srcV (TS : List TOb) (t : Ty) : TV → Option (List (T t))
  | .str s => (match t with | .int .u8 => some ((s.map fun c => (c.toNat : Int)) : List Int) | _ => none)
  | x => decS TS t x

section
variable (Γ : List (Nat × Ct)) (ht : Option Ty) (F : RF) (G : List RF) (TS : List TOb)
abbrev ER := Option (List Prop × TV × RF × List RF × List TOb)
def evNew : ER := match ht with | some t => some ([], .slf (lenT TS), F, G, pushO TS (.row t [])) | none => none
noncomputable def evMk (k bytes : Nat) (z : List AVal) (len cap : TV) : ER :=
  match ht, ofL z, asI len, asI cap with
  | some t, some cs, some (k1, a), some (k2, b) => (match decL t 1 cs, Nat.beq (szT t) k, kEq k1 k2 with
    | some [x], true, some _ => some ([b = a, 0 ≤ a, bytes * a.toNat ≤ 140737488355328], .slf (lenT TS), F, G, pushO TS (.row t (List.replicate a.toNat x)))
    | _, _, _ => none)
  | _, _, _, _ => none
/-- Rows of rows. -/
def deepOf (ht : Option Ty) (z : List AVal) (k : Nat) : Option Ty :=
  match ht, z, k with
  | some (.sl e), [.nils], 1 => some e
  | _, _, _ => none
noncomputable def evMkD (e : Ty) (bytes : Nat) (len cap : TV) : ER :=
  match asI len, asI cap with
  | some (k1, a), some (k2, b) => (match kEq k1 k2 with
    | some _ => some ([b = a, 0 ≤ a, bytes * a.toNat ≤ 140737488355328], .slf (lenT TS), F, G, pushO TS (.drow e (List.replicate a.toNat [])))
    | none => none)
  | _, _ => none
/-- A row goes into a row of rows; an element of a row in it is written. -/
noncomputable def evStoreD (n : Nat) (x y : TV) : ER :=
  match x, y with
  | .eptr l i fo, .slf q => (match objAt TS l, objAt TS q with
    | some (.drow t ls), some (.row t' xs) => (match n, fo, Nat.beq q l, tyEq t' t with
      | 1, 0, false, some ⟨h⟩ => some ([], .junk, killF q (killIF l F), killG q (killIG l G), setOb (setOb (killO q (killIO l TS)) q .dead) l (.drow t (ls.set i.toNat (h ▸ xs))))
      | _, _, _, _ => none)
    | _, _ => none)
  | .ieptr l i j k fo, y => (match objAt TS l, tvCells y with
    | some (.drow t ls), some ys => (match Nat.beq (szT t) k, sizeIs ys n, sizeLe (fo + n) (cellsT t (@gt (T t) ⟨zT t⟩ (gt ls i) j)), decC t (setG (cellsT t (@gt (T t) ⟨zT t⟩ (gt ls i) j)) fo ys), n with
      | true, true, true, some (x', []), _ + 1 => some ([], .junk, F, G, setOb TS l (.drow t (ls.set i.toNat ((gt ls i).set j.toNat x'))))
      | _, _, _, _, _ => none)
    | _, _ => none)
  | _, _ => none
/-- nil is stored where a slice stands that is owned: the row is empty from here on. -/
def nilOver (n : Nat) (x y : TV) : Option (Nat × Nat × Nat × List TV × Nat × Ty) :=
  match y, n, x with
  | .nils, 1, .ptr l off => (match objAt TS l with
    | some (.cells k cs) => (match cs.drop off with
      | .slf m :: _ => (match objAt TS m, Nat.beq m l with | some (.row t _), false => some (l, off, k, cs, m, t) | _, _ => none)
      | .sl m _ _ :: _ => (match objAt TS m, Nat.beq m l with | some (.row t _), false => some (l, off, k, cs, m, t) | _, _ => none)
      | _ => none)
    | _ => none)
  | _, _, _ => none
noncomputable def evStore (n : Nat) (x y : TV) : ER :=
  match nilOver TS n x y with
  | some (l, off, k, cs, m, t) => some ([], .junk, killF m F, killG m G, setOb (setOb (killO m TS) m (.row t [])) l (.cells k (setG (killL m cs) off [.slf m])))
  | none => match x, tvCells y with
  | .ptr l off, some ys => (match objAt TS l with
    | some (.cells k cs) => (match sizeIs ys n, sizeLe (off + n) cs, n with
      | true, true, _ + 1 => some ([], .junk, F, G, setOb TS l (.cells k (setG cs off ys)))
      | _, _, _ => none)
    | _ => none)
  | .eptr l i fo, some ys => (match objAt TS l with
    | some (.row t ls) => (match sizeIs ys n, sizeLe (fo + n) (cellsT t (@gt (T t) ⟨zT t⟩ ls i)), decC t (setG (cellsT t (@gt (T t) ⟨zT t⟩ ls i)) fo ys), n with
      | true, true, some (x', []), _ + 1 => some ([], .junk, F, G, setOb TS l (.row t (ls.set i.toNat x')))
      | _, _, _, _ => none)
    | _ => none)
  | _, _ => none
noncomputable def evAppend (k bytes : Nat) (x y : TV) : ER :=
  match x with
  | .slf l => (match objAt TS l with
    | some (.row t ls) => (match srcV TS t y, Nat.beq (szT t) k with
      | some ys, true => some ([(ls.length + ys.length) * bytes ≤ 140737488355328], .slf l, killF l F, killG l G, setOb (killO l TS) l (.row t (ls ++ ys)))
      | _, _ => none)
    | _ => none)
  | .sl l off len => (match objAt TS l with
    | some (.row t ls) => (match srcV TS t y, Nat.beq (szT t) k with
      | some ys, true => some ([(len.toNat + ys.length) * bytes ≤ 140737488355328], .slf l, killF l F, killG l G, setOb (killO l TS) l (.row t ((ls.drop off.toNat).take len.toNat ++ ys)))
      | _, _ => none)
    | _ => none)
  | .nils => (match ht with
    | some t => (match srcV TS t y, Nat.beq (szT t) k with
      | some ys, true => some ([ys.length * bytes ≤ 140737488355328], .slf (lenT TS), F, G, pushO TS (.row t ys))
      | _, _ => none)
    | none => none)
  | _ => none
noncomputable def evCallE (f : Nat) (xs : List TV) : ER :=
  match lookN Γ f with
  | some ct => (match decAs TS ct.args xs, flatR ct.res || pureL xs with
    | some a, true => some ([ct.pre a], retT (resTV ct.res (ct.fn a) (lenT TS)).1, F, G, pushL TS (resTV ct.res (ct.fn a) (lenT TS)).2)
    | _, _ => none)
  | none => none
def withE2 (x y : Rand) (f : TV → TV → ER) : ER := match rdP F [] x, rdP F [] y with | some a, some b => f a b | _, _ => none

noncomputable def evClear (k : Nat) (z : List AVal) (x : TV) : ER :=
  match x, ofL z with
  | .nils, _ => some ([], .junk, F, G, TS)
  | .slf l, some cs => (match objAt TS l with
    | some (.row t ls) => (match decL t 1 cs, Nat.beq (szT t) k with
      | some [x], true => some ([], .junk, F, G, setOb TS l (.row t (List.replicate ls.length x)))
      | _, _ => none)
    | _ => none)
  | .sl l off len, some cs => (match objAt TS l with
    | some (.row t ls) => (match decL t 1 cs, Nat.beq (szT t) k with
      | some [x], true => some ([], .junk, F, G, setOb TS l (.row t (ls.take off.toNat ++ List.replicate len.toNat x ++ ls.drop (off.toNat + len.toNat))))
      | _, _ => none)
    | _ => none)
  | _, _ => none

/-- What changes the store. -/
noncomputable def evE : SOp → ER
  | .newnil k => (match ht with | some t => (match Nat.beq (szT t) k with | true => evNew ht F G TS | false => none) | none => none)
  | .mov x => (match isNils x with | true => evNew ht F G TS | false => none)
  | .alloc k z => (match ofL z with | some cs => some ([], .ptr (lenT TS) 0, F, G, pushO TS (.cells k cs)) | none => none)
  | .box k x => (match rdP F [] x with
    | some y => (match tvCells y with | some cs => some ([], .ptr (lenT TS) 0, F, G, pushO TS (.cells k cs)) | none => none)
    | none => none)
  | .bslice ro len k z parts => (match ro with
    | false => (match evLit ht F [] len k z parts with | some ⟨t, xs⟩ => some ([], .slf (lenT TS), F, G, pushO TS (.row t xs)) | none => none)
    | true => none)
  | .mkslice k bytes z len cap => withE2 F len cap fun x y => (match deepOf ht z k with | some e => evMkD F G TS e bytes x y | none => evMk ht F G TS k bytes z x y)
  | .store n x v => withE2 F x v fun x y => (match evStoreD F G TS n x y with | some r => some r | none => evStore F G TS n x y)
  | .append k bytes s x => withE2 F s x (evAppend ht F G TS k bytes)
  | .s2b x => (match rdP F [] x with | some (.str s) => some ([], .slf (lenT TS), F, G, pushO TS (.row (.int .u8) (s.map fun c => (c.toNat : Int)))) | _ => none)
  | .mark x => (match rdP F [] x with
    | some (.slf l) => (match objAt TS l with | some (.row (.int _) ls) => some ([0 < ls.length], .slf l, F, G, TS) | _ => none)
    | _ => none)
  | .clear k z x => (match rdP F [] x with | some a => evClear F G TS k z a | none => none)
  | .call f args => (match rdPs F [] args with | some xs => evCallE Γ F G TS f xs | none => none)
  | _ => none
end

end Go.Vc
