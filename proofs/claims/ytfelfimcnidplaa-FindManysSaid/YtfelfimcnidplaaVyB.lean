/-
  The typed conditions of a piece of code: regions, branches, loops with invariants over plain terms, whole functions.
-/
import Derived.Test.YtfelfimcnidplaaVyA
set_option linter.unusedVariables false
namespace Go.Vc

/-- Hints: the type of what a slot's slice holds; the names of slots and objects. -/
structure Hi where
  ty : List (Nat × Ty)
  nm : List (Nat × String)

/-- What goes with the code: of a loop the slots whose objects change, those that are read as parts, those that get a new object in every round. -/
inductive An where
  | d
  | seq (a b : An)
  | loop (mods subs swaps : List Nat) (a : An)
def An.l : An → An | .seq a _ => a | _ => .d
def An.r : An → An | .seq _ b => b | _ => .d
def An.body : An → An | .loop _ _ _ a => a | _ => .d
def An.mods : An → List Nat | .loop m _ _ _ => m | _ => []
def An.subs : An → List Nat | .loop _ s _ _ => s | _ => []
def An.swaps : An → List Nat | .loop _ _ s _ => s | _ => []

abbrev TK := RF → List RF → List TOb → Prop

def mentions (d : Nat) : List (Nat × Bool) → Bool
  | [] => false
  | (g, _) :: gs => match Nat.beq g d with | true => true | false => mentions d gs
def dropM (d : Nat) : RF → RF
  | [] => []
  | (s, gs, p, x) :: F => match mentions d gs with | true => (s, [], True, .junk) :: dropM d F | false => (s, gs, p, x) :: dropM d F
def putT (F : RF) (d : Option Nat) (gs : List (Nat × Bool)) (p : Prop) (x : TV) : RF :=
  match d with
  | some d => (match mentions d gs with | true => (d, [], True, .junk) :: dropM d F | false => (d, gs, p, x) :: dropM d F)
  | none => F

def onlyT (F : RF) : List Nat → RF
  | [] => []
  | t :: keep => match lookN F t with | some ([], _, x) => (t, [], True, x) :: onlyT F keep | _ => onlyT F keep
def lookT (F : RF) (t : Nat) : TV := match lookN F t with | some ([], _, x) => x | _ => .junk
def getsT (F : RF) : List Nat → List TV
  | [] => []
  | t :: W => lookT F t :: getsT F W
def zipT : List Nat → List TV → RF → RF
  | t :: W, x :: xs, F => (t, [], True, x) :: zipT W xs F
  | _, _, F => F
def sameF : RF → RF → Bool
  | [], [] => true
  | (s, gs, _, x) :: F, (s', gs', _, y) :: F' => (match Nat.beq s s', eqPath gs gs' with
    | true, true => (match pureV x with | true => sameF F F' | false => (match sameV x y with | true => sameF F F' | false => false))
    | _, _ => false)
  | _, _ => false
def sameG : List RF → List RF → Bool
  | [], [] => true
  | F :: G, F' :: G' => (match sameF F F' with | true => sameG G G' | false => false)
  | _, _ => false

/-- A guard's condition. -/
def gdV (isG : Bool) (x : TV) : Option TV :=
  match isG with
  | false => some x
  | true => (match asP x with | some p => some (.gd p) | none => none)
def condG : List (Nat × Bool) → Prop → Prop → Bool → Prop
  | [], _, p, true => p
  | [], _, p, false => ¬ p
  | _ :: _, q, p, true => q ∧ p
  | _ :: _, q, p, false => q ∧ ¬ p

/-- How long a slice is. -/
def nilLen (TS : List TOb) : TV → Option Int
  | .ros _ l => some (l.length : Int)
  | .slf l => (match objAt TS l with | some (.row _ ls) => some (ls.length : Int) | _ => none)
  | .sl _ _ len => some len
  | _ => none
/-- What a branch tells of the slot that it went by. -/
def refT (F : RF) (x : Rand) (v : TV) : RF :=
  match x with
  | .t n => (match lookN F n with
    | some ([], _, .pr _) => (n, [], True, v) :: F
    | some ([], _, .bb _) => (n, [], True, v) :: F
    | _ => F)
  | .c _ => F

/-- A call by a summary of what it does. -/
structure Sp where
  ev : List TV → List RF → List TOb → Option (List Prop × TV × List RF × List TOb)

/-- A function's code, for calls that are followed. -/
structure Fi where
  n : Nat
  code : SCode
  res : List RRes
  an : An
  hi : Hi
  sp : Option Sp

def onN (N : TK) (Q : SExit → TK) : SExit → TK
  | .normal => N
  | e => Q e
/-- The frame that was put by is taken away at every way out. -/
def popQ (Q : SExit → TK) : SExit → TK := fun e F G TS => match G with | _ :: G => Q e F G TS | [] => False
def onB (id : Nat) (Q : SExit → TK) : SExit → TK
  | .exit id' => match Nat.beq id' id with | true => Q .normal | false => Q (.exit id')
  | e => Q e

section
variable (Γ : List (Nat × Ct)) (call : Nat → List TV → List RF → List TOb → (TV → List RF → List TOb → Prop) → Prop)

/-- What stands for a value that was not reckoned. -/
def dumV (d : Option Nat) : List GOp → TV
  | [] => .ff
  | o :: rest => (match d, o.op with
    | some d', .bin _ _ (.t e) (.c (.int k _)) => (match Nat.beq d' e with | true => .int k 0 | false => dumV d rest)
    | _, _ => dumV d rest)
noncomputable def tOps (hi : Hi) (K : TK) : Nat → List GOp → TK
  | _, [], F, G, TS => K F G TS
  | m, o :: rest, F, G, TS =>
    match o.guard with
    | some (g, w) => (match lookN F g with
      | some (gs, q, .gd p) => (match evP Γ (match o.dst with | some d => lookN hi.ty d | none => none) F ((g, w) :: gs) TS o.op with
        | some (ps, y) => (match gdV o.isG y with
          | some y => conj (underP (condG gs q p w) ps) (tOps hi K (m - 1) rest (putT F o.dst ((g, w) :: gs) (condG gs q p w) y) G TS)
          | none => False)
        | none => (match m, o.isG, o.op with
          | 0, false, .call f args => (match rdPs F ((g, w) :: gs) args with
            | some xs => (condG gs q p w → call f xs (F :: G) TS fun y G' TS' => (match G' with | F' :: G' => tOps hi K 0 rest (putT F' o.dst ((g, w) :: gs) (condG gs q p w) y) G' TS' | [] => False)) ∧
              (¬ condG gs q p w → tOps hi K 0 rest (putT F o.dst ((g, w) :: gs) (condG gs q p w) (dumV o.dst rest)) G TS)
            | none => False)
          | 0, false, .callv x args => (match rdP F ((g, w) :: gs) x, rdPs F ((g, w) :: gs) args with
            | some (.fn f cap), some xs => (condG gs q p w → call f (xs ++ cap) (F :: G) TS fun y G' TS' => (match G' with | F' :: G' => tOps hi K 0 rest (putT F' o.dst ((g, w) :: gs) (condG gs q p w) y) G' TS' | [] => False)) ∧
              (¬ condG gs q p w → tOps hi K 0 rest (putT F o.dst ((g, w) :: gs) (condG gs q p w) (dumV o.dst rest)) G TS)
            | _, _ => False)
          | _, _, _ => False))
      | _ => False)
    | none => (match evP Γ (match o.dst with | some d => lookN hi.ty d | none => none) F [] TS o.op with
      | some (ps, y) => (match gdV o.isG y with
        | some y => conj ps (tOps hi K (m - 1) rest (putT F o.dst [] True y) G TS)
        | none => False)
      | none => (match m, o.isG with
        | 0, false => (match evE Γ (match o.dst with | some d => lookN hi.ty d | none => none) F G TS o.op with
          | some (ps, y, F', G', TS') => conj ps (tOps hi K 0 rest (putT F' o.dst [] True y) G' TS')
          | none => (match o.op with
            | .call f args => (match rdPs F [] args with
              | some xs => call f xs (F :: G) TS fun y G' TS' => (match G' with | F' :: G' => tOps hi K 0 rest (putT F' o.dst [] True y) G' TS' | [] => False)
              | none => False)
            | .callv x args => (match rdP F [] x, rdPs F [] args with
              | some (.fn f cap), some xs => call f (xs ++ cap) (F :: G) TS fun y G' TS' => (match G' with | F' :: G' => tOps hi K 0 rest (putT F' o.dst [] True y) G' TS' | [] => False)
              | _, _ => False)
            | .isnil neg x => (match rdP F [] x with
              | some .nils => tOps hi K 0 rest (putT F o.dst [] True (match neg with | true => .ff | false => .tt)) G TS
              | some x => (match nilLen TS x with
                | some n => ∀ isnil : Nm "isnil" Prop, (isnil → n = 0) → tOps hi K 0 rest (putT F o.dst [] True (match neg with | true => .pr (¬ isnil) | false => .pr isnil)) G TS
                | none => False)
              | none => False)
            | _ => False))
        | _, _ => False))

/-! ### Code that only reads, both ways at once -/
noncomputable def evOps (hi : Hi) (TS : List TOb) : List GOp → RF → Option (List Prop × RF)
  | [], F => some ([], F)
  | o :: rest, F =>
    match o.guard with
    | some (g, w) => (match lookN F g with
      | some (gs, q, .gd p) => (match evP Γ (match o.dst with | some d => lookN hi.ty d | none => none) F ((g, w) :: gs) TS o.op with
        | some (ps, y) => (match gdV o.isG y with
          | some y => (match evOps hi TS rest (putT F o.dst ((g, w) :: gs) (condG gs q p w) y) with
            | some (qs, F') => some (underP (condG gs q p w) ps ++ qs, F')
            | none => none)
          | none => none)
        | none => none)
      | _ => none)
    | none => (match evP Γ (match o.dst with | some d => lookN hi.ty d | none => none) F [] TS o.op with
      | some (ps, y) => (match gdV o.isG y with
        | some y => (match evOps hi TS rest (putT F o.dst [] True y) with
          | some (qs, F') => some (ps ++ qs, F')
          | none => none)
        | none => none)
      | none => none)

/-- Slices that are made at places that are kept for them; between them code that only reads. -/
noncomputable def tRes (hi : Hi) (K : List GOp → TK) : Nat → List GOp → TK
  | 0, rest, F, G, TS => K rest F G TS
  | _ + 1, [], _, _, _ => False
  | q + 1, o :: rest, F, G, TS => (match o.guard, o.isG, o.op with
    | none, false, .mkres d k b z len cap => (match Nat.beq d (q + 1), withE2 F len cap (evMk (match o.dst with | some d => lookN hi.ty d | none => none) F G TS k b z) with
      | true, some (ps, y, F', G', TS') => conj ps (tRes hi K q rest (putT F' o.dst [] True y) G' TS')
      | _, _ => False)
    | none, false, .alres d k z => (match Nat.beq d (q + 1), ofL z with
      | true, some cs => tRes hi K q rest (putT F o.dst [] True (.ptr (lenT TS) 0)) G (pushO TS (.cells k cs))
      | _, _ => False)
    | _, _, _ => (match evOps Γ hi TS [o] F with
      | some (ps, F') => conj ps (tRes hi K (q + 1) rest F' G TS)
      | none => False))

def keptN : Option (Nat × Nat × List Nat) → Nat | none => 0 | some d => d.2.1
noncomputable def mergeF (c : Prop) (Fb : RF) : RF → RF
  | [] => []
  | (s, _, _, x) :: F => (match lookN Fb s with
    | some ([], _, y) => (match pickV c x y with | some z => (s, [], True, z) :: mergeF c Fb F | none => mergeF c Fb F)
    | _ => mergeF c Fb F)

noncomputable def evC (hi : Hi) (TS : List TOb) : SCode → RF → Option (List Prop × RF)
  | .skip, F => some ([], F)
  | .ops l d keep, F => (match keptN d with | _ + 1 => none | 0 => match evOps Γ hi TS l F with | some (ps, F') => some (ps, onlyT F' keep) | none => none)
  | .seq a b, F => (match evC hi TS a F with
    | some (ps, F1) => (match evC hi TS b F1 with | some (qs, F2) => some (ps ++ qs, F2) | none => none)
    | none => none)
  | .join keep W _ a b, F => (match evC hi TS a F with
    | some (ps, F1) => (match evC hi TS b (zipT W (getsT F1 W) (onlyT F keep)) with | some (qs, F2) => some (ps ++ qs, F2) | none => none)
    | none => none)
  | .cond x a b, F => (match rdP F [] x with
    | some .tt => evC hi TS a F
    | some .ff => evC hi TS b F
    | some y => (match asP y, evC hi TS a (refT F x .tt), evC hi TS b (refT F x .ff) with
      | some p, some (ps, Fa), some (qs, Fb) => some (underP p ps ++ underP (¬ p) qs, mergeF p Fb (onlyT Fa (Fa.map (·.1))))
      | _, _, _ => none)
    | none => none)
  | .block _ a, F => evC hi TS a F
  | _, _ => none

/-! ### Loops -/
inductive Sh where
  | val (t : Ty)
  | sub (l : Nat)
  | con (x : TV)
inductive ShO where
  | keep (o : TOb)
  | row (nm : String) (t : Ty)
  | drow (nm : String) (t : Ty)
  | cells (nm : String) (k : Nat) (shs : List Sh)

def tyS : TV → Option Ty
  | .int k _ => some (.int k)
  | .byte _ => some (.int .u8)
  | .str _ => some .str
  | .pr _ | .bb _ | .tt | .ff => some .bool
  | .ros t _ => some (.sl t)
  | _ => none
def tyL : List TV → Option Tys
  | [] => some .nil
  | x :: xs => (match tyS x, tyL xs with | some t, some ts => some (.cons t ts) | _, _ => none)
def hasN : List Nat → Nat → Bool
  | [], _ => false
  | a :: l, n => (match Nat.beq a n with | true => true | false => hasN l n)
def shV (subs : List Nat) (x : TV) : Sh :=
  match x with
  | .agg cs => (match tyL cs with | some ts => .val (.st ts) | none => .con (.agg cs))
  | .sl l _ _ => .sub l
  | .slf l => (match hasN subs l with | true => .sub l | false => .con (.slf l))
  | x => (match tyS x with | some t => .val t | none => .con x)
def shVs (subs : List Nat) : List TV → List Sh
  | [] => []
  | x :: xs => shV subs x :: shVs subs xs
def shOs (ms : List (Nat × String)) (subs : List Nat) : Nat → List TOb → List ShO
  | _, [] => []
  | n, o :: S => (match lookN ms n with
    | some nm => (match o with
      | .dead => .keep .dead
      | .row t _ => .row nm t
      | .drow t _ => .drow nm t
      | .cells k cs => .cells nm k (shVs subs cs))
    | none => .keep o) :: shOs ms subs (n + 1) S
/-- The objects that a value leads to. -/
def idsV (TS : List TOb) (nm : String) : Nat → List TV → List (Nat × String)
  | 0, _ => []
  | _ + 1, [] => []
  | n + 1, x :: xs => (match x with
    | .slf l => (l, nm) :: idsV TS nm n xs
    | .sl l _ _ => (l, nm) :: idsV TS nm n xs
    | .eptr l _ _ => (l, nm) :: idsV TS nm n xs
    | .inn l _ => (l, nm) :: idsV TS nm n xs
    | .ieptr l _ _ _ _ => (l, nm) :: idsV TS nm n xs
    | .ptr l _ => (match objAt TS l with
      | some (.cells _ cs) => (l, nm) :: idsV TS nm n (app2 cs xs)
      | _ => (l, nm) :: idsV TS nm n xs)
    | .fn _ cs => idsV TS nm n (app2 cs xs)
    | .agg cs => idsV TS nm n (app2 cs xs)
    | _ => idsV TS nm n xs)
where app2 : List TV → List TV → List TV
  | [], ys => ys
  | x :: xs, ys => x :: app2 xs ys
def idsS (nms : List (Nat × String)) (F : RF) (TS : List TOb) : List Nat → List (Nat × String)
  | [] => []
  | s :: ss => app2 (idsV TS (match lookN nms s with | some n => n | none => "o") 40 [lookT F s]) (idsS nms F TS ss)
where app2 : List (Nat × String) → List (Nat × String) → List (Nat × String)
  | [], ys => ys
  | x :: xs, ys => x :: app2 xs ys
def fsts : List (Nat × String) → List Nat
  | [] => []
  | (a, _) :: l => a :: fsts l
/-- (a slot that holds a box stands for the box, and, a million further, for the row in the box) -/
def swS (F : RF) (TS : List TOb) : List Nat → List (Nat × Nat)
  | [] => []
  | s :: ss => (match lookT F s with
    | .slf l => (s, l) :: swS F TS ss
    | .ptr l 0 => (match objAt TS l with
      | some (.cells _ (.slf m :: _)) => (s, l) :: (Nat.add 1000000 s, m) :: swS F TS ss
      | _ => (s, l) :: swS F TS ss)
    | _ => swS F TS ss)
def nmW (hi : Hi) : List Nat → List String
  | [] => []
  | t :: W => (match lookN hi.nm t with | some n => n | none => "x") :: nmW hi W
def hdN : List String → String | [] => "x" | s :: _ => s
def tlN : List String → List String | [] => [] | _ :: r => r

abbrev PT : List Sh → Type → Type
  | [], R => R
  | .val t :: r, R => T t → PT r R
  | .sub _ :: r, R => Int → Int → PT r R
  | .con _ :: r, R => PT r R
abbrev PO : List ShO → Type → Type
  | [], R => R
  | .keep _ :: r, R => PO r R
  | .row _ t :: r, R => List (T t) → PO r R
  | .drow _ t :: r, R => List (List (T t)) → PO r R
  | .cells _ _ shs :: r, R => PT shs (PO r R)

def qV {A B : Type} : (ns : List String) → (ws : List Sh) → PT ws A → PT ws B → (A → B → List TV → Prop) → Prop
  | _, [], p, m, f => f p m []
  | ns, .val t :: r, p, m, f => ∀ x : Nm (hdN ns) (T t), qV (tlN ns) r (p x) (m x) fun p m xs => f p m (tvA t x :: xs)
  | ns, .sub l :: r, p, m, f => ∀ (off : Nm (hdN ns) Int) (len : Nm (hdN ns) Int), qV (tlN ns) r (p off len) (m off len) fun p m xs => f p m (.sl l off len :: xs)
  | ns, .con x :: r, p, m, f => qV (tlN ns) r p m fun p m xs => f p m (x :: xs)
def repN : Nat → String → List String
  | 0, _ => []
  | n + 1, s => s :: repN n s
def qO {A B : Type} : (os : List ShO) → PO os A → PO os B → (A → B → List TOb → Prop) → Prop
  | [], p, m, f => f p m []
  | .keep o :: r, p, m, f => qO r p m fun p m S => f p m (o :: S)
  | .row nm t :: r, p, m, f => ∀ l : Nm nm (List (T t)), qO r (p l) (m l) fun p m S => f p m (.row t l :: S)
  | .drow nm t :: r, p, m, f => ∀ l : Nm nm (List (List (T t))), qO r (p l) (m l) fun p m S => f p m (.drow t l :: S)
  | .cells nm k shs :: r, p, m, f => qV (repN shs.length nm) shs p m fun p m cs => qO r p m fun p m S => f p m (.cells k cs :: S)

noncomputable def decAV : (t : Ty) → TV → Option (T t)
  | .int k, x => decAI k x
  | .str, x => decAS x
  | .bool, x => asB x
  | .st fs, x => decAg fs x
  | .sl e, x => (match x with | .ros e' l => (match tyEq e' e with | some ⟨h⟩ => some (h ▸ l : List (T e)) | none => none) | _ => none)

mutual
/-- Equations that make two values one. -/
def eqS : TV → TV → Option (List Prop)
  | .int k a, .int k' b => (match kEq k k' with | some _ => some [a = b] | none => none)
  | .byte a, .byte b => some [a = b]
  | .str a, .str b => some [a = b]
  | .bb a, .bb b => some [a = b]
  | .ros t l, .ros t' l' => (match tyEq t t' with | some ⟨h⟩ => some [(h ▸ l : List (T t')) = l'] | none => none)
  | .sl l a b, .sl l' a' b' => (match Nat.beq l l' with | true => some [a = a', b = b'] | false => none)
  | .fn f xs, .fn g ys => (match Nat.beq f g with | true => eqSs xs ys | false => none)
  | .rop xs, .rop ys => eqSs xs ys
  | .agg xs, .agg ys => eqSs xs ys
  | x, y => (match sameV x y with | true => some [] | false => none)
def eqSs : List TV → List TV → Option (List Prop)
  | [], [] => some []
  | x :: xs, y :: ys => (match eqS x y, eqSs xs ys with | some p, some q => some (p ++ q) | _, _ => none)
  | _, _ => none
end
noncomputable def aV {A B : Type} (TS : List TOb) : (ws : List Sh) → PT ws A → PT ws B → List TV → (A → B → Prop) → Prop
  | [], p, m, [], f => f p m
  | .val t :: r, p, m, x :: xs, f => (match decAV t x with | some a => aV TS r (p a) (m a) xs f | none => False)
  | .sub l :: r, p, m, .sl l' off len :: xs, f => (match Nat.beq l l' with | true => aV TS r (p off len) (m off len) xs f | false => False)
  | .sub l :: r, p, m, .slf l' :: xs, f => (match Nat.beq l l', objAt TS l with | true, some (.row _ ls) => aV TS r (p 0 (ls.length : Int)) (m 0 (ls.length : Int)) xs f | _, _ => False)
  | .con x0 :: r, p, m, x :: xs, f => (match sameV x0 x with | true => aV TS r p m xs f | false => (match eqS x0 x with | some ps => conj ps (aV TS r p m xs f) | none => False))
  | _, _, _, _, _ => False

def eqO : TOb → TOb → Option (List Prop)
  | .dead, .dead => some []
  | .row t l, .row t' l' => (match tyEq t t' with | some ⟨h⟩ => some [(h ▸ l : List (T t')) = l'] | none => none)
  | .drow t l, .drow t' l' => (match tyEq t t' with | some ⟨h⟩ => some [(h ▸ l : List (List (T t'))) = l'] | none => none)
  | .cells k cs, .cells k' cs' => (match Nat.beq k k' with | true => eqSs cs cs' | false => none)
  | _, _ => none

noncomputable def aO {A B : Type} (TS : List TOb) : (os : List ShO) → PO os A → PO os B → List TOb → (A → B → Prop) → Prop
  | [], p, m, _, f => f p m
  | .keep o :: r, p, m, o' :: S, f => (match eqO o o' with | some ps => conj ps (aO TS r p m S f) | none => False)
  | .row _ t :: r, p, m, .row t' l :: S, f => (match tyEq t' t with | some ⟨h⟩ => aO TS r (p (h ▸ l)) (m (h ▸ l)) S f | none => False)
  | .drow _ t :: r, p, m, .drow t' l :: S, f => (match tyEq t' t with | some ⟨h⟩ => aO TS r (p (h ▸ l)) (m (h ▸ l)) S f | none => False)
  | .cells _ k shs :: r, p, m, .cells k' cs :: S, f => (match Nat.beq k k' with | true => aV TS shs p m cs fun p m => aO TS r p m S f | false => False)
  | _, _, _, _, _ => False

/-- Two objects change their numbers. -/
def swN (a b l : Nat) : Nat := match Nat.beq l a with | true => b | false => (match Nat.beq l b with | true => a | false => l)
mutual
def swV (a b : Nat) : TV → TV
  | .slf l => .slf (swN a b l)
  | .sl l o n => .sl (swN a b l) o n
  | .ptr l o => .ptr (swN a b l) o
  | .eptr l i o => .eptr (swN a b l) i o
  | .inn l i => .inn (swN a b l) i
  | .ifs t l => .ifs t (swN a b l)
  | .ieptr l i j k o => .ieptr (swN a b l) i j k o
  | .agg cs => .agg (swL a b cs)
  | .tup cs => .tup (swL a b cs)
  | .rop cs => .rop (swL a b cs)
  | .fn f cs => .fn f (swL a b cs)
  | x => x
def swL (a b : Nat) : List TV → List TV
  | [] => []
  | x :: xs => swV a b x :: swL a b xs
end
def swF (a b : Nat) : RF → RF
  | [] => []
  | (s, gs, p, x) :: F => (s, gs, p, swV a b x) :: swF a b F
def swG (a b : Nat) : List RF → List RF
  | [] => []
  | F :: G => swF a b F :: swG a b G
def swOb (a b : Nat) : TOb → TOb
  | .cells k cs => .cells k (swL a b cs)
  | o => o
def swM (a b : Nat) : List TOb → List TOb
  | [] => []
  | o :: S => swOb a b o :: swM a b S
def swO (a b : Nat) (S : List TOb) : List TOb :=
  match objAt S a, objAt S b with
  | some x, some y => setOb (setOb (swM a b S) a (swOb a b y)) b (swOb a b x)
  | _, _ => swM a b S
def slot1 (F : RF) (TS : List TOb) (p : Nat × Nat) : Nat :=
  match Nat.ble 1000000 p.1 with
  | true => (match lookT F (Nat.sub p.1 1000000) with
    | .ptr l 0 => (match objAt TS l with | some (.cells _ (.slf m :: _)) => m | _ => p.2)
    | _ => p.2)
  | false => (match lookT F p.1 with | .slf l => l | .ptr l 0 => l | _ => p.2)
/-- (slot, object): what the slot holds gets the object's number. -/
def swaps : List (Nat × Nat) → TK → TK
  | [], K, F, G, TS => K F G TS
  | p :: ps, K, F, G, TS => (match Nat.beq (slot1 F TS p) p.2 with
    | true => swaps ps K F G TS
    | false => (match objAt TS (slot1 F TS p), objAt TS p.2 with
      | some _, some _ => swaps ps K (swF (slot1 F TS p) p.2 F) (swG (slot1 F TS p) p.2 G) (swO (slot1 F TS p) p.2 TS)
      | _, _ => False))

/-! a nil slice in a variable that a loop changes is a row of its own from the loop on -/
mutual
def flatC : Ty → List Ty
  | .st fs => flatCs fs
  | t => [t]
def flatCs : Tys → List Ty
  | .nil => []
  | .cons t ts => flatC t ++ flatCs ts
end
def promC : Nat → List Ty → List TV → List TV × List TOb
  | n, t :: ts, c :: cs => (match t, c with
    | .sl e, .nils => (.slf n :: (promC (n + 1) ts cs).1, .row e [] :: (promC (n + 1) ts cs).2)
    | _, c => (c :: (promC n ts cs).1, (promC n ts cs).2))
  | _, _, cs => (cs, [])
def promS (ty : List (Nat × Ty)) (F : RF) : List Nat → List TOb → List TOb
  | [], TS => TS
  | s :: ss, TS => (match lookT F s, lookN ty s with
    | .ptr l 0, some t => (match objAt TS l with
      | some (.cells k cs) => promS ty F ss (setOb (pushL TS (promC (lenT TS) (flatC t) cs).2) l (.cells k (promC (lenT TS) (flatC t) cs).1))
      | _ => promS ty F ss TS)
    | _, _ => promS ty F ss TS)
noncomputable def tLoopP (ty : List (Nat × Ty)) (mods : List Nat) (L : List TOb → Prop) (F : RF) (TS : List TOb) : Prop := L (promS ty F mods TS)

noncomputable def tLoop (body : (SExit → TK) → TK) (hi : Hi) (an : An) (keep W : List Nat) (Q : SExit → TK) (F : RF) (G : List RF) (TS : List TOb) (ws : List Sh) (os : List ShO) : Prop :=
  ∃ (I : PT ws (PO os Prop)) (m : PT ws (PO os Nat)),
    (aV TS ws I m (getsT F W) fun I m => aO TS os I m TS fun I _ => I) ∧
    (qV (nmW hi W) ws I m fun I1 m1 xs => qO os I1 m1 fun I2 m2 TS1 => I2 →
      body (onN (swaps (swS F TS an.swaps) fun F' G' TS' => (match G' with
        | F0 :: G' => (match sameF (onlyT F keep) F0, sameG G G' with
          | true, true => aV TS' ws I m (getsT F' W) fun I' m' => aO TS' os I' m' TS' fun I' m' => I' ∧ m' < m2
          | _, _ => False)
        | [] => False)) (popQ Q)) (zipT W xs (onlyT F keep)) (onlyT F keep :: G) TS1)

noncomputable def tvc (hi : Hi) : SCode → An → (SExit → TK) → TK
  | .skip, _, Q, F, G, TS => Q .normal F G TS
  | .ops l d keep, _, Q, F, G, TS => (match keptN d with
    | 0 => tOps Γ call hi (fun F' G' TS' => Q .normal (onlyT F' keep) G' TS') (match d with | some m => m.1 | none => 0) l F G TS
    | r + 1 => (match d with
      | some m => (match Nat.beq (l.take m.1).length m.1, evOps Γ hi TS (l.take m.1) F with
        | true, some (ps, F') => conj ps (tRes Γ hi (tOps Γ call hi (fun F' G' TS' => Q .normal (onlyT F' keep) G' TS') 0) (r + 1) (l.drop m.1) F' G TS)
        | _, _ => False)
      | none => False))
  | .seq a b, an, Q, F, G, TS => tvc hi a an.l (onN (fun F' G' TS' => tvc hi b an.r Q F' G' TS') Q) F G TS
  | .join keep W _ a b, an, Q, F, G, TS => (match evC Γ hi TS a F with
    | some (ps, F') => conj ps (tvc hi b an.r Q (zipT W (getsT F' W) (onlyT F keep)) G TS)
    | none => tvc hi a an.l (onN (fun F' G' TS' => (match G' with | F0 :: G' => tvc hi b an.r Q (zipT W (getsT F' W) (onlyT F0 keep)) G' TS' | [] => False)) (popQ Q)) F (onlyT F keep :: G) TS)
  | .cond x a b, an, Q, F, G, TS => (match rdP F [] x with
    | some .tt => tvc hi a an.l Q F G TS
    | some .ff => tvc hi b an.r Q F G TS
    | some y => (match asP y with
      | some p => (p → tvc hi a an.l Q (refT F x .tt) G TS) ∧ (¬ p → tvc hi b an.r Q (refT F x .ff) G TS)
      | none => False)
    | none => False)
  | .block id a, an, Q, F, G, TS => tvc hi a an (onB id Q) F G TS
  | .loop keep W _ a, an, Q, F, G, TS =>
    tLoopP hi.ty an.mods (fun TS => tLoop (fun Q F G TS => tvc hi a an.body Q F G TS) hi an keep W Q F G TS (shVs (fsts (idsS hi.nm F TS an.subs)) (getsT F W)) (shOs (idsS hi.nm F TS an.mods) (fsts (idsS hi.nm F TS an.subs)) 0 TS)) F TS
  | .exit id, _, Q, F, G, TS => Q (.exit id) F G TS
  | .ret, _, Q, F, G, TS => Q .ret F G TS

def resV (F : RF) (TS : List TOb) : List RRes → Option (List TV)
  | [] => some []
  | .tmp t :: rs => (match resV F TS rs with | some xs => some (lookT F t :: xs) | none => none)
  | .cell t n ag :: rs => (match lookT F t with
    | .ptr l off => (match objAt TS l with
      | some (.cells _ cs) => (match takeG n (cs.drop off) with
        | some xs => (match mkVT ag xs, resV F TS rs with | some y, some ys => some (y :: ys) | _, _ => none)
        | none => none)
      | _ => none)
    | _ => none)

def argT : Nat → List TV → RF
  | _, [] => []
  | i, x :: xs => (i, [], True, x) :: argT (i + 1) xs

noncomputable def tFunL (hi : Hi) (c : SCode) (an : An) (res : List RRes) (args : List TV) (G : List RF) (TS : List TOb) (K : List TV → List RF → List TOb → Prop) : Prop :=
  tvc Γ call hi c an (fun e F G TS => match e with
    | .exit _ => False
    | _ => (match resV F TS res with | some xs => K xs G TS | none => False)) (argT 0 args) G TS
noncomputable def tFun (hi : Hi) (c : SCode) (an : An) (res : List RRes) (args : List TV) (G : List RF) (TS : List TOb) (K : TV → List RF → List TOb → Prop) : Prop :=
  tFunL Γ call hi c an res args G TS fun xs => K (retT xs)
end

/-- Calls that are followed, to a depth. -/
noncomputable def callN (Γ : List (Nat × Ct)) (L : List (Nat × Fi)) : Nat → Nat → List TV → List RF → List TOb → (TV → List RF → List TOb → Prop) → Prop
  | 0, _, _, _, _, _ => False
  | n + 1, f, xs, G, TS, K => (match lookN L f with
    | some fi => (match fi.sp with
      | some s => (match s.ev xs G TS with | some (ps, y, G', TS') => conj ps (K y G' TS') | none => False)
      | none => (match Nat.ble xs.length fi.n with
        | true => tFun Γ (callN Γ L n) fi.hi fi.code fi.an fi.res xs G TS K
        | false => False))
    | none => False)

/-! ### A function against its contract -/
def decO (TS : List TOb) (t : Ty) : TV → Option (List (T t))
  | .nils => some []
  | .slf l => (match objAt TS l with
    | some (.row e ls) => (match tyEq e t with | some ⟨h⟩ => some (h ▸ ls) | none => none)
    | _ => none)
  | _ => none
def subO (TS : List TOb) (t : Ty) : TV → Option (List Prop × List (T t))
  | .sl l off len => (match objAt TS l with
    | some (.row e ls) => (match tyEq e t with | some ⟨h⟩ => some ([off = 0], (h ▸ ls : List (T t)).take len.toNat) | none => none)
    | _ => none)
  | x => (match decO TS t x with | some a => some ([], a) | none => none)
noncomputable def resO (TS : List TOb) : (r : RTy) → TV → Option (List Prop × RT r)
  | .val t, x => (match decA [] t x with | some a => some ([], a) | none => none)
  | .own t, x => subO TS t x
noncomputable def resK (TS : List TOb) : (rs : List RTy) → List TV → (RTs rs → Prop) → Prop
  | [], xs, K => (match xs with | [] => K () | _ :: _ => False)
  | [r], xs, K => (match xs with
    | [x] => (match resO TS r x with | some (ps, a) => conj ps (K a) | none => False)
    | _ => False)
  | r :: s :: rs, xs, K => (match xs with
    | x :: xs => (match resO TS r x with | some (ps, a) => conj ps (resK TS (s :: rs) xs fun r => K (a, r)) | none => False)
    | [] => False)
/-- No row is handed back twice. -/
def ownN : List RTy → List TV → List Nat
  | .own _ :: rs, .slf l :: xs => l :: ownN rs xs
  | .own _ :: rs, .sl l _ _ :: xs => l :: ownN rs xs
  | _ :: rs, _ :: xs => ownN rs xs
  | _, _ => []
def distinct : List Nat → Bool
  | [] => true
  | a :: l => match hasN l a with | true => false | false => distinct l

def tvAs : (ts : Tys) → Ts ts → List TV
  | .nil, _ => []
  | .cons t .nil, x => [tvA t x]
  | .cons t (.cons u ts), x => tvA t x.1 :: tvAs (.cons u ts) x.2

/-- Each part of a result is what it should be. -/
def eqR : (rs : List RTy) → RTs rs → RTs rs → Prop
  | [], _, _ => True
  | [_], x, y => x = y
  | _ :: s :: rs, x, y => x.1 = y.1 ∧ eqR (s :: rs) x.2 y.2

noncomputable def tCon (Γ : List (Nat × Ct)) (L : List (Nat × Fi)) (depth : Nat) (fi : Fi) (ct : Ct) (x : Ts ct.args) : Prop :=
  tFunL Γ (callN Γ L depth) fi.hi fi.code fi.an fi.res (tvAs ct.args x) [] [] fun xs _ TS =>
    match distinct (ownN ct.res xs) with
    | true => resK TS ct.res xs fun y => eqR ct.res y (ct.fn x)
    | false => False

/-! ### A function that writes what its first argument points to -/
structure Cu where
  rt : Ty
  args : Tys
  res : List RTy
  pre : T rt → Ts args → Prop
  fn : T rt → Ts args → T rt × RTs res

noncomputable def cuEv (c : Cu) (xs : List TV) (G : List RF) (TS : List TOb) : Option (List Prop × TV × List RF × List TOb) :=
  match xs with
  | .ptr l 0 :: xs => (match objAt TS l with
    | some (.cells 0 cs) => (match decC c.rt cs, decAs TS c.args xs, pureL xs with
      | some (r, []), some a, true => some ([c.pre r a], retT (resTV c.res (c.fn r a).2 0).1, G, setOb TS l (.cells 0 (cellsT c.rt (c.fn r a).1)))
      | _, _, _ => none)
    | _ => none)
  | _ => none
noncomputable def cuFi (c : Cu) : Fi := ⟨0, .ret, [], .d, ⟨[], []⟩, some ⟨cuEv c⟩⟩

def keptU : List RF → Bool
  | [F] => (match lookN F 0 with | some ([], _, .ptr 0 0) => true | _ => false)
  | _ => false
noncomputable def tConU (Γ : List (Nat × Ct)) (L : List (Nat × Fi)) (depth : Nat) (fi : Fi) (c : Cu) (r : T c.rt) (x : Ts c.args) : Prop :=
  tFunL Γ (callN Γ L depth) fi.hi fi.code fi.an fi.res (.ptr 0 0 :: tvAs c.args x) [argT 0 [.ptr 0 0]] [.cells 0 (cellsT c.rt r)] fun xs G TS =>
    match keptU G, objAt TS 0 with
    | true, some (.cells 0 cs) => (match decC c.rt cs with
      | some (r', []) => resK TS c.res xs fun y => r' = (c.fn r x).1 ∧ eqR c.res y (c.fn r x).2
      | _ => False)
    | _, _ => False

/-! ### A function that writes what some of its arguments point to -/
structure Cm where
  args : Tys
  ref : List Bool
  res : List RTy
  pre : Ts args → Prop
  fn : Ts args → RTs res × Ts args

noncomputable def dec1M (TS : List TOb) (t : Ty) (r : Bool) (x : TV) : Option (T t × List Nat) :=
  match r with
  | true => (match x with
    | .ptr l 0 => (match objAt TS l with
      | some (.cells 0 cs) => (match decC t cs with | some (a, []) => some (a, [l]) | _ => none)
      | _ => none)
    | _ => none)
  | false => (match pureV x, decA TS t x with | true, some a => some (a, []) | _, _ => none)
def hdB : List Bool → Bool | b :: _ => b | [] => false
def tlB : List Bool → List Bool | _ :: l => l | [] => []
noncomputable def decM (TS : List TOb) : (ts : Tys) → List Bool → List TV → Option (Ts ts × List Nat)
  | .nil, _, xs => (match xs with | [] => some ((), []) | _ :: _ => none)
  | .cons t .nil, rs, xs => (match xs with
    | [x] => dec1M TS t (hdB rs) x
    | _ => none)
  | .cons t (.cons u ts), rs, xs => (match xs with
    | x :: xs => (match dec1M TS t (hdB rs) x, decM TS (.cons u ts) (tlB rs) xs with
      | some (a, l), some (b, ls) => some ((a, b), l ++ ls)
      | _, _ => none)
    | [] => none)
def ref1T (t : Ty) (r : Bool) (a : T t) : List (List TV) := match r with | true => [cellsT t a] | false => []
def refsT : (ts : Tys) → List Bool → Ts ts → List (List TV)
  | .nil, _, _ => []
  | .cons t .nil, rs, a => ref1T t (hdB rs) a
  | .cons t (.cons u ts), rs, (a, b) => ref1T t (hdB rs) a ++ refsT (.cons u ts) (tlB rs) b
def putL : List TOb → List Nat → List (List TV) → List TOb
  | TS, l :: ls, cs :: L => putL (setOb TS l (.cells 0 cs)) ls L
  | TS, _, _ => TS
noncomputable def cmEv (c : Cm) (xs : List TV) (G : List RF) (TS : List TOb) : Option (List Prop × TV × List RF × List TOb) :=
  match decM TS c.args c.ref xs with
  | some (a, ls) => (match distinct ls with
    | true => some ([c.pre a], retT (resTV c.res (c.fn a).1 0).1, G, putL TS ls (refsT c.args c.ref (c.fn a).2))
    | false => none)
  | none => none
noncomputable def cmFi (c : Cm) : Fi := ⟨0, .ret, [], .d, ⟨[], []⟩, some ⟨cmEv c⟩⟩

def arg1M (t : Ty) (r : Bool) (a : T t) (k : Nat) : TV := match r with | true => .ptr k 0 | false => tvA t a
def nx (r : Bool) (k : Nat) : Nat := match r with | true => k + 1 | false => k
def argM : (ts : Tys) → List Bool → Ts ts → Nat → List TV
  | .nil, _, _, _ => []
  | .cons t .nil, rs, a, k => [arg1M t (hdB rs) a k]
  | .cons t (.cons u ts), rs, (a, b), k => arg1M t (hdB rs) a k :: argM (.cons u ts) (tlB rs) b (nx (hdB rs) k)
def cellL : List (List TV) → List TOb
  | [] => []
  | cs :: L => .cells 0 cs :: cellL L
def ptrL : List (List TV) → Nat → List TV
  | [], _ => []
  | _ :: L, k => .ptr k 0 :: ptrL L (k + 1)
def keptF (F : RF) : List (List TV) → Nat → Bool
  | [], _ => true
  | _ :: L, k => (match lookN F k with | some ([], _, .ptr i 0) => (match Nat.beq i k with | true => keptF F L (k + 1) | false => false) | _ => false)
def keptM (L : List (List TV)) : List RF → Bool
  | [F] => keptF F L 0
  | _ => false
noncomputable def end1 (TS : List TOb) (t : Ty) (r : Bool) (a : T t) (k : Nat) (q : Prop) : Prop :=
  match r with
  | true => (match objAt TS k with
    | some (.cells 0 cs) => (match decC t cs with | some (a', []) => a' = a ∧ q | _ => False)
    | _ => False)
  | false => q
noncomputable def endM (TS : List TOb) : (ts : Tys) → List Bool → Ts ts → Nat → Prop → Prop
  | .nil, _, _, _, q => q
  | .cons t .nil, rs, a, k, q => end1 TS t (hdB rs) a k q
  | .cons t (.cons u ts), rs, (a, b), k, q => end1 TS t (hdB rs) a k (endM TS (.cons u ts) (tlB rs) b (nx (hdB rs) k) q)
noncomputable def tConM (Γ : List (Nat × Ct)) (L : List (Nat × Fi)) (depth : Nat) (fi : Fi) (c : Cm) (x : Ts c.args) : Prop :=
  tFunL Γ (callN Γ L depth) fi.hi fi.code fi.an fi.res (argM c.args c.ref x 0) [argT 0 (ptrL (refsT c.args c.ref x) 0)] (cellL (refsT c.args c.ref x)) fun xs G TS =>
    match keptM (refsT c.args c.ref x) G with
    | true => endM TS c.args c.ref (c.fn x).2 0 (resK TS c.res xs fun y => eqR c.res y (c.fn x).1)
    | false => False

end Go.Vc
